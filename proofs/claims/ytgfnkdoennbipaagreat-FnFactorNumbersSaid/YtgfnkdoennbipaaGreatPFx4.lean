-- an own text, written by a program of this place (wip/tools)
import Derived.Test.YtgfnkdoennbipaaGreatPFx0
import Derived.Test.YtgfnkdoennbipaaGreatPFGivB
import Derived.Test.YtgfnkdoennbipaaGreatPFx2
import Derived.Test.YtgfnkdoennbipaaGreatPFGivA
import Derived.Test.YtgfnkdoennbipaaGreatPFx3
namespace Go.Proofs.YtgfnkdoennbipaaGreat.PF
open Go.RowKit Go.Proofs.YtgfnkdoennbipaaGreatW.PrintWords Go.Proofs.YtgfnkdoennbipaaGreatW.PrintLast Go.Proofs.YtgfnkdoennbipaaGreatW.PrintMore
attribute [local go_sem] max2_int min2_int max_two min_two max_three min_three max_four min_four   -- for this text's walks alone
set_option linter.unusedVariables false
set_option linter.unusedSimpArgs false

/-! ### impl_factors: function 43 -/
def impl_factors.l0 : Nat → ByteArray → Int → List ByteArray → Int → Option (List ByteArray)
 | 0, _, _, _, _ => none
 | k + 1, x0, x1, x5, x6 => if (wrap64 (x6 + x1)) ≤ (x0.size : Int) then (if 0 ≤ x6 then (if x6 ≤ (wrap64 (x6 + x1)) then (if x5.length < 8796093022208 then (impl_factors.l0 k x0 x1 (x5 ++ [x0.extract (x6 : Int).toNat ((wrap64 (x6 + x1)) : Int).toNat]) (wrap64 (x6 + 1))) else (none)) else (none)) else (none)) else ((impl_sorted.f x5).bind fun t293 => (some t293))
def impl_factors.f (k : Nat) (a0 : ByteArray) (a1 : Int) : Option (List ByteArray) := impl_factors.l0 k a0 a1 ([] : List ByteArray) 0
theorem impl_factors.mono_l : ∀ k, (∀ y0 y1 y2 y3, LeO (impl_factors.l0 k y0 y1 y2 y3) (impl_factors.l0 (k + 1) y0 y1 y2 y3))
 | 0 => fun _ _ _ _ r h => by simp [impl_factors.l0] at h
 | k + 1 => by
  have ih0 := impl_factors.mono_l k
  ·
   intro y0 y1 y2 y3
   unfold impl_factors.l0
   with_reducible repeat' first
   | exact ih0 _ _ _ _
   | exact LeO.refl _
   | exact LeO.none _
   | refine LeO.ite ?_ ?_
   | refine LeO.bind ?_ (fun _ => ?_)
theorem impl_factors.mono : ∀ a0 a1 k, LeO (impl_factors.f k a0 a1) (impl_factors.f (k + 1) a0 a1) := by
 intro a0 a1 k
 have ih0 := impl_factors.mono_l k
 unfold impl_factors.f
 with_reducible repeat' first
   | exact ih0 _ _ _ _
   | exact LeO.refl _
   | exact LeO.none _
   | refine LeO.ite ?_ ?_
   | refine LeO.bind ?_ (fun _ => ?_)
set_option maxHeartbeats 8000000 in
set_option maxRecDepth 100000 in
theorem impl_factors.calls (k : Nat) (a0 : ByteArray) (a1 : Int) (r : List ByteArray) (w : World) (h : impl_factors.f k a0 a1 = some r) :
  Calls Tryz.prog 43 #[.string a0, .int .i64 a1] w fun e w' => ∃ v0_ : Value, e = .returned (v0_) ∧ Kd.R Kd.string 9 w' w.heap.size (fun _ => True) v0_ r ∧ Below w.heap.size w w' := by
 have HB := Aside0.mk (Below.refl w.heap.size w)
 have H : (impl_factors.l0 k a0 a1 ([] : List ByteArray) 0) = some r := h
 clear h
 have H' := Aside0.mk H
 clear H
 go_enter Tryz.func43, Tryz.ntmps43
 go_wp2
 go_loopg [5, 6] k (fun kq v5 v6 w' => ∃ (x5_1 : List ByteArray) (x6_1 : Int), v6 = .int .i64 x6_1 ∧ Aside0 (impl_factors.l0 kq a0 a1 x5_1 x6_1 = some r) ∧ Aside0 (kq ≤ k) ∧ Aside0 (Kd.R Kd.string 9 w' w.heap.size (fun _ => True) v5 x5_1) ∧ Aside0 (Below w.heap.size w w'))
 case atStart => exact ⟨(([] : List ByteArray)), (0), qF, H', ⟨Nat.le_refl _⟩, ⟨by first | exact Kd.R_nil _ _ _ _ _ | exact Kd.N_nil _ _ _ _ _ | exact Kd.V_nil _ _ _ _ _ | exact Kd.Q_nil _ _ _ _ _ | exact Kd.S_nil _ _ _ _ _⟩, ⟨qB HB.out⟩⟩
 case round =>
  clear H'
  obtain ⟨x5_1, x6_1, rfl, HA, HK1, HO_5, HB⟩ := hrel
  cases gk with
  | zero => exact absurd HA.out (by simp [impl_factors.l0])
  | succ k1 =>
   have H := HA.out
   clear HA
   simp only [impl_factors.l0] at H
   by_cases c3 : (wrap64 (x6_1 + a1)) ≤ (a0.size : Int)
   rotate_left
   ·
    rw [if_neg c3] at H
    have c3b0 : decide ((wrap64 (x6_1 + a1)) ≤ (a0.size : Int)) = false := decide_eq_false c3
    clear c3
    replace H := qN H
    obtain ⟨t293, A9, H⟩ := H
    try dsimp only at H
    obtain rfl := Option.some.inj H
    obtain ⟨Ao10, co10, eo10⟩ := Kd.R_slice HO_5.out
    subst eo10
    go_wp2_with (first | ((with_reducible refine gate_callee (f := 74) rfl ?_); refine goesL_ (some 25) rfl rfl Tryz.func74 (by kernel_rfl) rfl #[.slice Ao10 x5_1.length co10] rfl qV ?_; (with_reducible refine (impl_sorted.calls (fun k_ => some k_ = (.slice Ao10 x5_1.length co10 : Value).ownBlock) (.slice Ao10 x5_1.length co10) x5_1 t293 w _ ?side1 ?side2 A9.out).mono ?_); (case side1 => exact qB HB.out); (case side2 => exact Kd.R_tight rfl HO_5.out); rintro e w11 ⟨v294, rfl, ho0, hb, hkp⟩; refine ⟨_, rfl, ?_⟩; have HO295 := Aside0.mk (Kd.R_mono (ok' := fun k_ => True) ho0 (fun k_ hk_ => trivial)); replace HB := Aside0.mk (hb); clear HO_5))
    go_ret
    exact ⟨_, qE, qR HO295.out, qB HB.out⟩

   rw [if_pos c3] at H
   have c3b0 : decide ((wrap64 (x6_1 + a1)) ≤ (a0.size : Int)) = true := decide_eq_true c3
   clear c3
   by_cases c4 : 0 ≤ x6_1
   rotate_left
   ·
    rw [if_neg c4] at H
    exact absurd H (by simp)
   rw [if_pos c4] at H
   have c4b0 := eq_true c4
   have c4b1 : decide (0 ≤ x6_1) = true := decide_eq_true c4
   clear c4
   by_cases c5 : x6_1 ≤ (wrap64 (x6_1 + a1))
   rotate_left
   ·
    rw [if_neg c5] at H
    exact absurd H (by simp)
   rw [if_pos c5] at H
   have c5b0 := eq_true c5
   have c5b1 : decide (x6_1 ≤ (wrap64 (x6_1 + a1))) = true := decide_eq_true c5
   have c6b0 := eq_true (of_decide_eq_true (by first | (with_reducible assumption) | assumption) : (wrap64 (x6_1 + a1)) ≤ (a0.size : Int))
   by_cases c7 : x5_1.length < 8796093022208
   rotate_left
   ·
    rw [if_neg c7] at H
    exact absurd H (by simp)
   rw [if_pos c7] at H
   have LMc7 := Aside0.mk c7
   clear c7
   obtain ⟨y290, hy290⟩ : ∃ y_ : List ByteArray, y_ = (x5_1 ++ [a0.extract (x6_1 : Int).toNat ((wrap64 (x6_1 + a1)) : Int).toNat]) := ⟨_, rfl⟩
   replace H : (impl_factors.l0 k1 a0 a1 y290 (wrap64 (x6_1 + 1))) = some r := by first | (rw [hy290]; with_reducible exact H) | (have H2_ := (Option.bind_some _ _).symm.trans H; rw [hy290]; with_reducible exact H2_) | (have H2_ := (Option.bind_some _ _).symm.trans H; with_reducible exact H2_) | with_reducible exact H | (rw [hy290]; exact H) | exact H
   have Ny290 := Aside0.mk hy290
   clear hy290
   have H' := Aside0.mk H
   clear H
   go_wp2_with (first | ((with_reducible refine gate_builtin (b := .append) (xs := #[.tmp 15, .tmp 22]) rfl ?_); at_builtin; refine Kd.R_append Kd.string (w0 := w) w.heap.size rfl (.tmp 15) (.tmp 22) 26 9 (.string ⟨#[]⟩) 16 rfl Tryz.underlying26 info9 rfl (by decide) (by omega) u5 x5_1 (a0.extract (x6_1 : Int).toNat ((wrap64 (x6_1 + a1)) : Int).toNat) [.string (a0.extract (x6_1 : Int).toNat ((wrap64 (x6_1 + a1)) : Int).toNat)] (fun _ => True) (fun _ => False) rfl rfl ?aP (fun _ hk => hk.elim) ?aF ?aO ?aB ?aS ?aL ?_; (case aP => exact rfl); (case aB => exact (qB HB.out)); (case aF => exact (fun _ _ => trivial)); (case aO => exact (qR HO_5.out)); (case aS => exact (below_size (qB HB.out))); (case aL => have := LMc7.out; omega); intro v291 w8 ho hb hg hat; rw [← Ny290.out] at ho; replace HB := Aside0.mk (hb); have HO292 := Aside0.mk (ho); clear HO_5; clear ho hb hg hat))
   go_roundg k1
   case measure => have := HK1.out; omega
   case rel => exact ⟨(y290), (wrap64 (x6_1 + 1)), qF, H', ⟨by have := HK1.out; omega⟩, ⟨qR HO292.out⟩, ⟨qB HB.out⟩⟩
end Go.Proofs.YtgfnkdoennbipaaGreat.PF

namespace Go.Proofs.YtgfnkdoennbipaaGreat.PF
open Go.RowKit Go.Proofs.YtgfnkdoennbipaaGreatW.PrintWords Go.Proofs.YtgfnkdoennbipaaGreatW.PrintLast Go.Proofs.YtgfnkdoennbipaaGreatW.PrintMore
attribute [local go_sem] max2_int min2_int max_two min_two max_three min_three max_four min_four   -- for this text's walks alone
set_option linter.unusedVariables false
set_option linter.unusedSimpArgs false

/-! ### impl_FactorEdges: function 12 -/
def impl_FactorEdges.l0 : Nat → List ByteArray → List (List Int) → List ByteArray → Int → Int → Int → Option ((List (List Int)) × Int)
 | 0, _, _, _, _, _, _ => none
 | k + 1, x7, x8, x28, x29, x30, x440000 => if x30 < x29 then (if 0 ≤ x30 then (if x30 < (x28.length : Int) then (if 0 ≤ x440000 then (if x440000 ≤ ((rdOf ByteArray.empty x28 x30).size : Int) then ((slices_BinarySearch_string_string.f k x7 ((rdOf ByteArray.empty x28 x30).extract 0 (x440000 : Int).toNat)).bind fun bt451 => (if 1 ≤ ((rdOf ByteArray.empty x28 x30).size : Int) then ((slices_BinarySearch_string_string.f k x7 ((rdOf ByteArray.empty x28 x30).extract 1 (rdOf ByteArray.empty x28 x30).size)).bind fun bt453 => (if x8.length < 5864062014805 then (impl_FactorEdges.l0 k x7 (x8 ++ [(([bt451.1, bt453.1] : List Int))]) x28 x29 (wrap64 (x30 + 1)) x440000) else (none))) else (none))) else (none)) else (none)) else (none)) else (none)) else (some (x8, 0))
def impl_FactorEdges.f (k : Nat) (a0 : ByteArray) (a1 : Int) : Option ((List (List Int)) × Int) := (impl_wordCode.f k (impl_FactorEdges_1.f a1) (([a0] : List ByteArray))).bind fun t443 => (if t443 = 0 then ((impl_factors.f k a0 a1).bind fun t444 => ((impl_factors.f k a0 (wrap64 (a1 + 1))).bind fun t447 => (impl_FactorEdges.l0 k t444 ([] : List (List Int)) t447 (t447.length : Int) 0 a1))) else (some (([] : List (List Int)), t443)))
theorem impl_FactorEdges.mono_l : ∀ k, (∀ y0 y1 y2 y3 y4 y5, LeO (impl_FactorEdges.l0 k y0 y1 y2 y3 y4 y5) (impl_FactorEdges.l0 (k + 1) y0 y1 y2 y3 y4 y5))
 | 0 => fun _ _ _ _ _ _ r h => by simp [impl_FactorEdges.l0] at h
 | k + 1 => by
  have ih0 := impl_FactorEdges.mono_l k
  ·
   intro y0 y1 y2 y3 y4 y5
   unfold impl_FactorEdges.l0
   repeat' first
   | (with_reducible exact ih0 _ _ _ _ _ _)
   | (with_reducible exact impl_factors.mono _ _ _)
   | (with_reducible exact slices_BinarySearch_string_string.mono _ _ _)
   | (with_reducible exact LeO.refl _)
   | (with_reducible exact LeO.none _)
   | (with_reducible refine LeO.ite ?_ ?_)
   | (with_reducible refine LeO.bind ?_ (fun _ => ?_))
   | refine impl_wordCode.monoP ?_
theorem impl_FactorEdges.mono : ∀ a0 a1 k, LeO (impl_FactorEdges.f k a0 a1) (impl_FactorEdges.f (k + 1) a0 a1) := by
 intro a0 a1 k
 have ih0 := impl_FactorEdges.mono_l k
 unfold impl_FactorEdges.f
 repeat' first
   | (with_reducible exact ih0 _ _ _ _ _ _)
   | (with_reducible exact impl_factors.mono _ _ _)
   | (with_reducible exact slices_BinarySearch_string_string.mono _ _ _)
   | (with_reducible exact LeO.refl _)
   | (with_reducible exact LeO.none _)
   | (with_reducible refine LeO.ite ?_ ?_)
   | (with_reducible refine LeO.bind ?_ (fun _ => ?_))
   | refine impl_wordCode.monoP ?_
set_option maxHeartbeats 8000000 in
set_option maxRecDepth 100000 in
theorem impl_FactorEdges.calls (k : Nat) (a0 : ByteArray) (a1 : Int) (r1 : List (List Int)) (r2 : Int) (w : World) (h : impl_FactorEdges.f k a0 a1 = some (r1, r2)) :
  Calls Tryz.prog 12 #[.string a0, .int .i64 a1] w fun e w' => ∃ v0_ : Value, e = .returned (.tuple #[v0_, .int .i64 r2]) ∧ Kd.S (Kd.slice 2 (Kd.int .i64)) 36 w' w.heap.size (fun _ => True) v0_ r1 ∧ Below w.heap.size w w' := by
 have HB := Aside0.mk (Below.refl w.heap.size w)
 have H : ((impl_wordCode.f k (impl_FactorEdges_1.f a1) (([a0] : List ByteArray))).bind fun t443 => (if t443 = 0 then ((impl_factors.f k a0 a1).bind fun t444 => ((impl_factors.f k a0 (wrap64 (a1 + 1))).bind fun t447 => (impl_FactorEdges.l0 k t444 ([] : List (List Int)) t447 (t447.length : Int) 0 a1))) else (some (([] : List (List Int)), t443)))) = some (r1, r2) := h
 clear h
 obtain ⟨y440, hy440⟩ : ∃ y_ : List ByteArray, y_ = (([a0] : List ByteArray)) := ⟨_, rfl⟩
 replace H : ((impl_wordCode.f k (impl_FactorEdges_1.f a1) y440).bind fun t443 => (if t443 = 0 then ((impl_factors.f k a0 a1).bind fun t444 => ((impl_factors.f k a0 (wrap64 (a1 + 1))).bind fun t447 => (impl_FactorEdges.l0 k t444 ([] : List (List Int)) t447 (t447.length : Int) 0 a1))) else (some (([] : List (List Int)), t443)))) = some (r1, r2) := by first | (rw [hy440]; with_reducible exact H) | (have H2_ := (Option.bind_some _ _).symm.trans H; rw [hy440]; with_reducible exact H2_) | (have H2_ := (Option.bind_some _ _).symm.trans H; with_reducible exact H2_) | with_reducible exact H | (rw [hy440]; exact H) | exact H
 have Ny440 := Aside0.mk hy440
 clear hy440
 replace H := qN H
 obtain ⟨t443, A3, H⟩ := H
 try dsimp only at H
 by_cases c4 : t443 = 0
 rotate_left
 ·
  rw [if_neg c4] at H
  obtain ⟨c4b0, c4b1⟩ := zF c4
  simp only [Option.some.injEq, Prod.mk.injEq] at H
  obtain ⟨rfl, rfl⟩ := H
  go_enter Tryz.func12, Tryz.ntmps12
  go_wp2_with (first | ((with_reducible refine gate_dst (N := 3) rfl ?_); refine box_event ?hg (N := 3) ?hd (cs := #[.int .i64 a1]) (t := 2) ?hr ?_; (case hd => rfl); (case hg => rfl); (case hr => first | (go_simp; done) | (go_simp; rfl)); intro gb439 hg w32 hbox hb; have BK439 := Aside0.mk (hbox); have GW439 := Aside0.mk ((by rw [hg]; exact (below_size (qB HB.out)) : w.heap.size ≤ gb439)); have GE439 := Aside0.mk ((by rw [hg]; exact (below_size (qB HB.out)) : w.heap.size ≤ gb439)); replace HB := Aside0.mk (below_step (qB HB.out) hb); clear hb hbox hg) | ((with_reducible refine gate_dst (N := 17) rfl ?_); refine Kd.R_lit Kd.string _ 9 ?hg (N := 17) ?hd (xs := ([a0] : List ByteArray)) (inner := [.string a0]) (ok := fun _ => True) (okp := fun _ => True) ?hr ?hp (fun _ hk => hk) trivial (Below.refl _ _) (Nat.le_refl _) (by simp) ?_; (case hd => rfl); (case hg => rfl); (case hr => first | (go_simp; done) | (go_simp; rfl)); (case hp => exact (Reps.one (show Kd.M Kd.string _ _ _ a0 [.string a0] from rfl) (Reps.none _ _))); intro v441 w33 ho34 hb hg_ hnew_; clear hg_ hnew_; (first | rw [← Ny440.out] at ho34 | (simp only [Int.reduceToNat] at ho34; rw [← Ny440.out] at ho34)); have HO442 := Aside0.mk (Kd.R_lower ho34 (below_size (qG HB.out))); replace BK439 := Aside0.mk (blk_below (g := gb439) (o := .cells #[.int .i64 a1] 2 (0, 0)) (qA BK439.out) hb); replace HB := Aside0.mk (below_step (qG HB.out) hb); clear hb ho34; obtain ⟨Ao35, co35, eo35⟩ := Kd.R_slice HO442.out; subst eo35) | ((with_reducible refine gate_callee (f := 35) rfl ?_); refine goesL_ (some 18) rfl rfl Tryz.func35 (by kernel_rfl) rfl #[.func (.func 42) #[] #[.pointer (some ⟨gb439, 0, none⟩)], .slice Ao35 y440.length co35] rfl qV ?_; (with_reducible refine (impl_wordCode.calls k (impl_FactorEdges_1.f a1) 42 #[.pointer (some ⟨gb439, 0, none⟩)] _ _ y440 t443 _ ?side1 ?side2 ?side3 A3.out).mono ?_); (case side1 => exact qC (Kd.R_reads' HO442.out).2.2); (case side2 => exact (Kd.R_reads' HO442.out).2.1); (case side3 => exact ⟨Go.Proofs.enters_of Tryz.func42 (by kernel_rfl) rfl, fun W_ hW_ r_ h_ => (impl_FactorEdges_1.calls gb439 a1 r_ W_ (blk_below (g := gb439) (o := .cells #[.int .i64 a1] 2 (0, 0)) (qA BK439.out) hW_) h_).mono (fun e_ W2_ h2_ => ⟨h2_.1, by first | exact h2_.2 | exact h2_.2.below⟩)⟩); rintro e w36 ⟨rfl, hb⟩; refine ⟨_, rfl, ?_⟩; replace HO442 := Aside0.mk (Kd.R_below (qR HO442.out) hb); replace BK439 := Aside0.mk (blk_below (g := gb439) (o := .cells #[.int .i64 a1] 2 (0, 0)) (qA BK439.out) hb); replace HB := Aside0.mk (below_step (qG HB.out) hb)))
  go_ret2
  exact ⟨_, qE, by first | exact Kd.S_nil _ _ _ _ _ | exact Kd.N_nil _ _ _ _ _ | exact Kd.V_nil _ _ _ _ _ | exact Kd.Q_nil _ _ _ _ _ | exact Kd.R_nil _ _ _ _ _, qG HB.out⟩

 rw [if_pos c4] at H
 obtain ⟨c4b0, c4b1⟩ := zT c4
 clear c4
 replace H := qN H
 obtain ⟨t444, A5, H⟩ := H
 try dsimp only at H
 replace H := qN H
 obtain ⟨t447, A6, H⟩ := H
 try dsimp only at H
 have H' := Aside0.mk H
 clear H
 go_enter Tryz.func12, Tryz.ntmps12
 go_wp2_with (first | ((with_reducible refine gate_dst (N := 3) rfl ?_); refine box_event ?hg (N := 3) ?hd (cs := #[.int .i64 a1]) (t := 2) ?hr ?_; (case hd => rfl); (case hg => rfl); (case hr => first | (go_simp; done) | (go_simp; rfl)); intro gb439 hg w7 hbox hb; have BK439 := Aside0.mk (hbox); have GW439 := Aside0.mk ((by rw [hg]; exact (below_size (qB HB.out)) : w.heap.size ≤ gb439)); have GE439 := Aside0.mk ((by rw [hg]; exact (below_size (qB HB.out)) : w.heap.size ≤ gb439)); replace HB := Aside0.mk (below_step (qB HB.out) hb); clear hb hbox hg) | ((with_reducible refine gate_dst (N := 17) rfl ?_); refine Kd.R_lit Kd.string _ 9 ?hg (N := 17) ?hd (xs := ([a0] : List ByteArray)) (inner := [.string a0]) (ok := fun _ => True) (okp := fun _ => True) ?hr ?hp (fun _ hk => hk) trivial (Below.refl _ _) (Nat.le_refl _) (by simp) ?_; (case hd => rfl); (case hg => rfl); (case hr => first | (go_simp; done) | (go_simp; rfl)); (case hp => exact (Reps.one (show Kd.M Kd.string _ _ _ a0 [.string a0] from rfl) (Reps.none _ _))); intro v441 w8 ho9 hb hg_ hnew_; clear hg_ hnew_; (first | rw [← Ny440.out] at ho9 | (simp only [Int.reduceToNat] at ho9; rw [← Ny440.out] at ho9)); have HO442 := Aside0.mk (Kd.R_lower ho9 (below_size (qG HB.out))); replace BK439 := Aside0.mk (blk_below (g := gb439) (o := .cells #[.int .i64 a1] 2 (0, 0)) (qA BK439.out) hb); replace HB := Aside0.mk (below_step (qG HB.out) hb); clear hb ho9; obtain ⟨Ao10, co10, eo10⟩ := Kd.R_slice HO442.out; subst eo10) | ((with_reducible refine gate_callee (f := 35) rfl ?_); refine goesL_ (some 18) rfl rfl Tryz.func35 (by kernel_rfl) rfl #[.func (.func 42) #[] #[.pointer (some ⟨gb439, 0, none⟩)], .slice Ao10 y440.length co10] rfl qV ?_; (with_reducible refine (impl_wordCode.calls k (impl_FactorEdges_1.f a1) 42 #[.pointer (some ⟨gb439, 0, none⟩)] _ _ y440 t443 _ ?side1 ?side2 ?side3 A3.out).mono ?_); (case side1 => exact qC (Kd.R_reads' HO442.out).2.2); (case side2 => exact (Kd.R_reads' HO442.out).2.1); (case side3 => exact ⟨Go.Proofs.enters_of Tryz.func42 (by kernel_rfl) rfl, fun W_ hW_ r_ h_ => (impl_FactorEdges_1.calls gb439 a1 r_ W_ (blk_below (g := gb439) (o := .cells #[.int .i64 a1] 2 (0, 0)) (qA BK439.out) hW_) h_).mono (fun e_ W2_ h2_ => ⟨h2_.1, by first | exact h2_.2 | exact h2_.2.below⟩)⟩); rintro e w11 ⟨rfl, hb⟩; refine ⟨_, rfl, ?_⟩; replace HO442 := Aside0.mk (Kd.R_below (qR HO442.out) hb); replace BK439 := Aside0.mk (blk_below (g := gb439) (o := .cells #[.int .i64 a1] 2 (0, 0)) (qA BK439.out) hb); replace HB := Aside0.mk (below_step (qG HB.out) hb); have hcz12_0 : w11.cell? ⟨gb439, 0, none⟩ = some (.int .i64 a1) := (blk_cell BK439.out 0).trans rfl; have hfz12_0 := blk_frozen BK439.out 0) | ((with_reducible refine gate_callee (f := 43) rfl ?_); refine goesL_ (some 24) rfl rfl Tryz.func43 (by kernel_rfl) rfl #[.string a0, .int .i64 a1] rfl qV ?_; (with_reducible refine (impl_factors.calls k a0 a1 t444 _ A5.out).mono ?_); rintro e w13 ⟨v445, rfl, ho0, hb⟩; refine ⟨_, rfl, ?_⟩; have HO446 := Aside0.mk (Kd.R_lower (Kd.R_new' ho0 (Kd.R_lt (qR HO442.out))) (below_size (qG HB.out))); replace HO442 := Aside0.mk (Kd.R_elder' (qR HO442.out) (Kd.R_base ho0) hb); replace BK439 := Aside0.mk (blk_below (g := gb439) (o := .cells #[.int .i64 a1] 2 (0, 0)) (qA BK439.out) hb); replace HB := Aside0.mk (below_step (qG HB.out) hb); have hcz14_0 : w13.cell? ⟨gb439, 0, none⟩ = some (.int .i64 a1) := (blk_cell BK439.out 0).trans rfl; have hfz14_0 := blk_frozen BK439.out 0) | ((with_reducible refine gate_callee (f := 43) rfl ?_); refine goesL_ (some 28) rfl rfl Tryz.func43 (by kernel_rfl) rfl #[.string a0, .int .i64 (wrap64 (a1 + 1))] rfl qV ?_; (with_reducible refine (impl_factors.calls k a0 (wrap64 (a1 + 1)) t447 _ A6.out).mono ?_); rintro e w15 ⟨v448, rfl, ho0, hb⟩; refine ⟨_, rfl, ?_⟩; have HO449 := Aside0.mk (Kd.R_lower (Kd.R_new' (Kd.R_new' ho0 (Kd.R_lt (qR HO442.out))) (Kd.R_lt (qR HO446.out))) (below_size (qG HB.out))); replace HO442 := Aside0.mk (Kd.R_elder' (qR HO442.out) (Kd.R_base ho0) hb); replace HO446 := Aside0.mk (Kd.R_elder' (qR HO446.out) (Kd.R_base ho0) hb); replace BK439 := Aside0.mk (blk_below (g := gb439) (o := .cells #[.int .i64 a1] 2 (0, 0)) (qA BK439.out) hb); replace HB := Aside0.mk (below_step (qG HB.out) hb); obtain ⟨Ao16, co16, eo16⟩ := Kd.R_slice HO449.out; subst eo16))
 go_loopg [8, 30] k (fun kq v8 v30 w' => ∃ (x8_1 : List (List Int)) (x30_1 : Int), v30 = .int .i64 x30_1 ∧ Aside0 (impl_FactorEdges.l0 kq t444 x8_1 t447 (t447.length : Int) x30_1 a1 = some (r1, r2)) ∧ Aside0 (kq ≤ k) ∧ Aside0 (Kd.R Kd.string 9 w' w.heap.size (fun k_ => some k_ ≠ ((.slice Ao16 t447.length co16) : Value).ownBlock) v445 t444) ∧ Aside0 (Kd.S (Kd.slice 2 (Kd.int .i64)) 36 w' w.heap.size (fun k_ => k_ ≠ gb439) v8 x8_1) ∧ Aside0 (Kd.R Kd.string 9 w' w.heap.size (fun k_ => some k_ ≠ (v445 : Value).ownBlock) (.slice Ao16 t447.length co16) t447) ∧ Aside0 (w'.heap[gb439]? = some (.cells #[.int .i64 a1] 2 (0, 0))) ∧ Aside0 (Below w.heap.size w w'))
 case atStart => exact ⟨(([] : List (List Int))), (0), qF, H', ⟨Nat.le_refl _⟩, ⟨by (with_reducible repeat (first | apply Kd.R_alloc | apply Kd.R_drewN | apply Kd.R_drew)); exact Kd.R_mono HO446.out (fun _ hk => hk.2)⟩, ⟨by first | exact Kd.S_nil _ _ _ _ _ | exact Kd.N_nil _ _ _ _ _ | exact Kd.V_nil _ _ _ _ _ | exact Kd.Q_nil _ _ _ _ _ | exact Kd.R_nil _ _ _ _ _⟩, ⟨by (with_reducible repeat (first | apply Kd.R_alloc | apply Kd.R_drewN | apply Kd.R_drew)); exact Kd.R_mono HO449.out (fun _ hk => hk.2)⟩, ⟨qA BK439.out⟩, ⟨qG HB.out⟩⟩
 case round =>
  clear H'
  obtain ⟨x8_1, x30_1, rfl, HA, HK1, HO_7, HO_8, HO_28, BK439, HB⟩ := hrel
  cases gk with
  | zero => exact absurd HA.out (by simp [impl_FactorEdges.l0])
  | succ k1 =>
   have H := HA.out
   clear HA
   simp only [impl_FactorEdges.l0] at H
   by_cases c17 : x30_1 < (t447.length : Int)
   rotate_left
   ·
    rw [if_neg c17] at H
    have c17b0 : decide (x30_1 < (t447.length : Int)) = false := decide_eq_false c17
    clear c17
    simp only [Option.some.injEq, Prod.mk.injEq] at H
    obtain ⟨rfl, rfl⟩ := H
    go_wp2
    go_ret2
    exact ⟨_, qE, by (with_reducible repeat (first | apply Kd.S_alloc | apply Kd.S_drewN | apply Kd.S_drew)); exact Kd.S_mono HO_8.out (fun _ hk => trivial), qG HB.out⟩
   rw [if_pos c17] at H
   have c17b0 : decide (x30_1 < (t447.length : Int)) = true := decide_eq_true c17
   clear c17
   by_cases c18 : 0 ≤ x30_1
   rotate_left
   ·
    rw [if_neg c18] at H
    exact absurd H (by simp)
   rw [if_pos c18] at H
   have c18b0 : decide (0 ≤ x30_1) = true := decide_eq_true c18
   clear c18
   by_cases c19 : x30_1 < (t447.length : Int)
   rotate_left
   ·
    rw [if_neg c19] at H
    exact absurd H (by simp)
   rw [if_pos c19] at H
   have c19b0 : decide (x30_1 < (t447.length : Int)) = true := decide_eq_true c19
   clear c19
   by_cases c20 : 0 ≤ a1
   rotate_left
   ·
    rw [if_neg c20] at H
    exact absurd H (by simp)
   rw [if_pos c20] at H
   have c20b0 := eq_true c20
   have c20b1 : decide (0 ≤ a1) = true := decide_eq_true c20
   clear c20
   by_cases c21 : a1 ≤ ((rdOf ByteArray.empty t447 x30_1).size : Int)
   rotate_left
   ·
    rw [if_neg c21] at H
    exact absurd H (by simp)
   rw [if_pos c21] at H
   have c21b0 := eq_true c21
   have c21b1 : decide (a1 ≤ ((rdOf ByteArray.empty t447 x30_1).size : Int)) = true := decide_eq_true c21
   clear c21
   replace H := qN H
   obtain ⟨⟨t451, t452⟩, A22, H⟩ := H
   try dsimp only at H
   by_cases c23 : 1 ≤ ((rdOf ByteArray.empty t447 x30_1).size : Int)
   rotate_left
   ·
    rw [if_neg c23] at H
    exact absurd H (by simp)
   rw [if_pos c23] at H
   have c23b0 := eq_true c23
   have c23b1 : decide (1 ≤ ((rdOf ByteArray.empty t447 x30_1).size : Int)) = true := decide_eq_true c23
   clear c23
   replace H := qN H
   obtain ⟨⟨t453, t454⟩, A24, H⟩ := H
   try dsimp only at H
   obtain ⟨y455, hy455⟩ : ∃ y_ : List Int, y_ = (([t451, t453] : List Int)) := ⟨_, rfl⟩
   replace H : (if x8_1.length < 5864062014805 then (impl_FactorEdges.l0 k1 t444 (x8_1 ++ [y455]) t447 (t447.length : Int) (wrap64 (x30_1 + 1)) a1) else (none)) = some (r1, r2) := by first | (rw [hy455]; with_reducible exact H) | (have H2_ := (Option.bind_some _ _).symm.trans H; rw [hy455]; with_reducible exact H2_) | (have H2_ := (Option.bind_some _ _).symm.trans H; with_reducible exact H2_) | with_reducible exact H | (rw [hy455]; exact H) | exact H
   have Ny455 := Aside0.mk hy455
   clear hy455
   by_cases c25 : x8_1.length < 5864062014805
   rotate_left
   ·
    rw [if_neg c25] at H
    exact absurd H (by simp)
   rw [if_pos c25] at H
   have LMc25 := Aside0.mk c25
   clear c25
   obtain ⟨y458, hy458⟩ : ∃ y_ : List (List Int), y_ = (x8_1 ++ [y455]) := ⟨_, rfl⟩
   replace H : (impl_FactorEdges.l0 k1 t444 y458 t447 (t447.length : Int) (wrap64 (x30_1 + 1)) a1) = some (r1, r2) := by first | (rw [hy458]; with_reducible exact H) | (have H2_ := (Option.bind_some _ _).symm.trans H; rw [hy458]; with_reducible exact H2_) | (have H2_ := (Option.bind_some _ _).symm.trans H; with_reducible exact H2_) | with_reducible exact H | (rw [hy458]; exact H) | exact H
   have Ny458 := Aside0.mk hy458
   clear hy458
   have H' := Aside0.mk H
   clear H
   have p450 : 0 ≤ (x30_1 : Int) := of_decide_eq_true (by first | (with_reducible assumption) | assumption)
   have q450 : x30_1 < (t447.length : Int) := of_decide_eq_true (by first | (with_reducible assumption) | assumption)
   obtain ⟨ad450, e450, hx450_0⟩ := Kd.at_string (Kd.R_reads' HO_28.out).2.2 x30_1 p450 q450
   cases e450
   replace p450 := eq_true p450
   replace q450 := eq_true q450
   have hcz26_0 : wr.cell? ⟨gb439, 0, none⟩ = some (.int .i64 a1) := (blk_cell BK439.out 0).trans rfl
   have hfz26_0 := blk_frozen BK439.out 0
   obtain ⟨Ao27, co27, eo27⟩ := Kd.R_slice HO_7.out
   subst eo27
   go_wp2_with (first | ((with_reducible refine gate_callee (f := 44) rfl ?_); refine goesL_ (some 39) rfl rfl Tryz.func44 (by kernel_rfl) rfl #[.slice Ao27 t444.length co27, .string ((rdOf ByteArray.empty t447 x30_1).extract 0 (a1 : Int).toNat)] rfl qV ?_; (with_reducible refine (slices_BinarySearch_string_string.calls k1 _ _ t444 ((rdOf ByteArray.empty t447 x30_1).extract 0 (a1 : Int).toNat) t451 t452 _ ?side1 ?side2 A22.out).mono ?_); (case side1 => exact qC (Kd.R_reads' HO_7.out).2.2); (case side2 => exact (Kd.R_reads' HO_7.out).2.1); rintro e w' ⟨rfl, ⟨nd, rfl⟩⟩; refine ⟨_, rfl, ?_⟩) | ((with_reducible refine gate_callee (f := 44) rfl ?_); refine goesL_ (some 46) rfl rfl Tryz.func44 (by kernel_rfl) rfl #[.slice Ao27 t444.length co27, .string ((rdOf ByteArray.empty t447 x30_1).extract 1 (rdOf ByteArray.empty t447 x30_1).size)] rfl qV ?_; (with_reducible refine (slices_BinarySearch_string_string.calls k1 _ _ t444 ((rdOf ByteArray.empty t447 x30_1).extract 1 (rdOf ByteArray.empty t447 x30_1).size) t453 t454 _ ?side1 ?side2 A24.out).mono ?_); (case side1 => exact qC (Kd.R_reads' HO_7.out).2.2); (case side2 => exact (Kd.R_reads' HO_7.out).2.1); rintro e w' ⟨rfl, ⟨nd, rfl⟩⟩; refine ⟨_, rfl, ?_⟩) | ((with_reducible refine gate_dst (N := 52) rfl ?_); refine Kd.R_lit (Kd.int .i64) _ 2 ?hg (N := 52) ?hd (xs := ([t451, t453] : List Int)) (inner := [.int .i64 t451, .int .i64 t453]) (ok := fun _ => True) (okp := fun _ => True) ?hr ?hp (fun _ hk => hk) trivial (Below.refl _ _) (Nat.le_refl _) (by simp) ?_; (case hd => rfl); (case hg => rfl); (case hr => first | (go_simp; done) | (go_simp; rfl)); (case hp => exact (Reps.one (show Kd.M (Kd.int .i64) _ _ _ t451 [.int .i64 t451] from rfl) (Reps.one (show Kd.M (Kd.int .i64) _ _ _ t453 [.int .i64 t453] from rfl) (Reps.none _ _)))); intro v456 w28 ho29 hb hg_ hnew_; clear hg_ hnew_; (first | rw [← Ny455.out] at ho29 | (simp only [Int.reduceToNat] at ho29; rw [← Ny455.out] at ho29)); replace HO_7 := Aside0.mk (Kd.R_below (qR HO_7.out) hb); replace HO_8 := Aside0.mk (Kd.S_elder' (by (with_reducible repeat (first | apply Kd.S_alloc | apply Kd.S_drewN | apply Kd.S_drew)); exact HO_8.out) (Kd.R_base ho29) hb); replace HO_28 := Aside0.mk (Kd.R_below (qR HO_28.out) hb); have HO457 := Aside0.mk (Kd.R_lower (Kd.R_newB ho29 (g := gb439) (o := .cells #[.int .i64 a1] 2 (0, 0)) (qA BK439.out)) (below_size (qG HB.out))); replace BK439 := Aside0.mk (blk_below (g := gb439) (o := .cells #[.int .i64 a1] 2 (0, 0)) (qA BK439.out) hb); replace HB := Aside0.mk (below_step (qG HB.out) hb); clear hb ho29; obtain ⟨Ao31, co31, eo31⟩ := Kd.R_slice HO457.out; subst eo31) | ((with_reducible refine gate_builtin (b := .append) (xs := #[.tmp 49, .tmp 53]) rfl ?_); at_builtin; refine Kd.S_append (Kd.slice 2 (Kd.int .i64)) (w0 := w) w.heap.size rfl (.tmp 49) (.tmp 53) 29 36 (.slice none 0 0) 24 rfl Tryz.underlying29 info36 rfl (by decide) (by omega) u8 x8_1 y455 [.slice Ao31 y455.length co31] (fun k_ => k_ ≠ gb439) (fun k_ => some k_ = (.slice Ao31 y455.length co31 : Value).ownBlock) rfl rfl ?aP (fun k_ hk_ => ((Kd.R_mono (ok' := fun k_ => ((fun k_ => k_ ≠ gb439)) k_ ∧ some k_ ≠ (u8 : Value).ownBlock) (Kd.R_apart' (HO457.out) (Kd.S_typed HO_8.out) (by decide)) (fun k_ hk => ⟨hk.1.2, hk.2⟩))).1 k_ hk_.symm) ?aF ?aO ?aB ?aS ?aL ?_; (case aP => exact Kd.M_row (Kd.R_mono (Kd.R_tight rfl (Kd.R_mono (ok' := fun k_ => ((fun k_ => k_ ≠ gb439)) k_ ∧ some k_ ≠ (u8 : Value).ownBlock) (Kd.R_apart' (HO457.out) (Kd.S_typed HO_8.out) (by decide)) (fun k_ hk => ⟨hk.1.2, hk.2⟩))) (fun _ h_ => h_))); (case aB => exact (qG HB.out)); (case aF => exact (fun k_ hk => Kd.freshB (g := gb439) (o := .cells #[.int .i64 a1] 2 (0, 0)) (qA BK439.out) k_ hk)); (case aO => exact (by (with_reducible repeat (first | apply Kd.S_alloc | apply Kd.S_drewN | apply Kd.S_drew)); exact Kd.S_mono HO_8.out (fun k_ hk => ⟨hk.1, fun e_ => hk.2 e_⟩))); (case aS => exact (below_size (qG HB.out))); (case aL => have := LMc25.out; omega); intro v459 w30 ho hb hg hat; rw [← Ny458.out] at ho; replace HO_7 := Aside0.mk (Kd.R_over' (qR HO_7.out) (Kd.S_typed (by (with_reducible repeat (first | apply Kd.S_alloc | apply Kd.S_drewN | apply Kd.S_drew)); exact HO_8.out)) (by decide) hg); replace HO_28 := Aside0.mk (Kd.R_over' (qR HO_28.out) (Kd.S_typed (by (with_reducible repeat (first | apply Kd.S_alloc | apply Kd.S_drewN | apply Kd.S_drew)); exact HO_8.out)) (by decide) hg); replace BK439 := Aside0.mk (blk_grown (g := gb439) (o := .cells #[.int .i64 a1] 2 (0, 0)) (qA BK439.out) hg (Kd.S_ne HO_8.out BK439.out (by decide))); replace HB := Aside0.mk (hb); have HO460 := Aside0.mk (ho); clear HO_8 HO457; clear ho hb hg hat))
   go_roundg k1
   case measure => have := HK1.out; omega
   case rel => exact ⟨(y458), (wrap64 (x30_1 + 1)), qF, H', ⟨by have := HK1.out; omega⟩, ⟨qR HO_7.out⟩, ⟨by (with_reducible repeat (first | apply Kd.S_alloc | apply Kd.S_drewN | apply Kd.S_drew)); exact HO460.out⟩, ⟨qR HO_28.out⟩, ⟨qA BK439.out⟩, ⟨qG HB.out⟩⟩
end Go.Proofs.YtgfnkdoennbipaaGreat.PF

namespace Go.Proofs.YtgfnkdoennbipaaGreat.PF
open Go.RowKit Go.Proofs.YtgfnkdoennbipaaGreatW.PrintWords Go.Proofs.YtgfnkdoennbipaaGreatW.PrintLast Go.Proofs.YtgfnkdoennbipaaGreatW.PrintMore
attribute [local go_sem] max2_int min2_int max_two min_two max_three min_three max_four min_four   -- for this text's walks alone
set_option linter.unusedVariables false
set_option linter.unusedSimpArgs false

/-! ### impl_CountCycles: function 14 -/
def impl_CountCycles.f (k : Nat) (a0 : ByteArray) (a1 : Int) : Option (Int × Int) := (impl_wordCode.f k (impl_CountCycles_1.f a1) (([a0] : List ByteArray))).bind fun t488 => (if t488 = 0 then ((impl_factors.f k a0 a1).bind fun t489 => (if (t489.length : Int) = 0 then (some (0, 0)) else ((impl_factors.f k a0 (wrap64 (a1 + 1))).bind fun t492 => (some (wrap64 ((wrap64 ((t492.length : Int) - (t489.length : Int))) + 1), 0))))) else (some (0, t488)))
theorem impl_CountCycles.mono : ∀ a0 a1 k, LeO (impl_CountCycles.f k a0 a1) (impl_CountCycles.f (k + 1) a0 a1) := by
 intro a0 a1 k
 unfold impl_CountCycles.f
 repeat' first
   | (with_reducible exact impl_factors.mono _ _ _)
   | (with_reducible exact LeO.refl _)
   | (with_reducible exact LeO.none _)
   | (with_reducible refine LeO.ite ?_ ?_)
   | (with_reducible refine LeO.bind ?_ (fun _ => ?_))
   | refine impl_wordCode.monoP ?_
set_option maxHeartbeats 8000000 in
set_option maxRecDepth 100000 in
theorem impl_CountCycles.calls (k : Nat) (a0 : ByteArray) (a1 : Int) (r1 : Int) (r2 : Int) (w : World) (h : impl_CountCycles.f k a0 a1 = some (r1, r2)) :
  Calls Tryz.prog 14 #[.string a0, .int .i64 a1] w fun e w' => e = .returned (.tuple #[.int .i64 r1, .int .i64 r2]) ∧ Below w.heap.size w w' := by
 have HB := Aside0.mk (Below.refl w.heap.size w)
 have H : ((impl_wordCode.f k (impl_CountCycles_1.f a1) (([a0] : List ByteArray))).bind fun t488 => (if t488 = 0 then ((impl_factors.f k a0 a1).bind fun t489 => (if (t489.length : Int) = 0 then (some (0, 0)) else ((impl_factors.f k a0 (wrap64 (a1 + 1))).bind fun t492 => (some (wrap64 ((wrap64 ((t492.length : Int) - (t489.length : Int))) + 1), 0))))) else (some (0, t488)))) = some (r1, r2) := h
 clear h
 obtain ⟨y485, hy485⟩ : ∃ y_ : List ByteArray, y_ = (([a0] : List ByteArray)) := ⟨_, rfl⟩
 replace H : ((impl_wordCode.f k (impl_CountCycles_1.f a1) y485).bind fun t488 => (if t488 = 0 then ((impl_factors.f k a0 a1).bind fun t489 => (if (t489.length : Int) = 0 then (some (0, 0)) else ((impl_factors.f k a0 (wrap64 (a1 + 1))).bind fun t492 => (some (wrap64 ((wrap64 ((t492.length : Int) - (t489.length : Int))) + 1), 0))))) else (some (0, t488)))) = some (r1, r2) := by first | (rw [hy485]; with_reducible exact H) | (have H2_ := (Option.bind_some _ _).symm.trans H; rw [hy485]; with_reducible exact H2_) | (have H2_ := (Option.bind_some _ _).symm.trans H; with_reducible exact H2_) | with_reducible exact H | (rw [hy485]; exact H) | exact H
 have Ny485 := Aside0.mk hy485
 clear hy485
 replace H := qN H
 obtain ⟨t488, A3, H⟩ := H
 try dsimp only at H
 by_cases c4 : t488 = 0
 rotate_left
 ·
  rw [if_neg c4] at H
  obtain ⟨c4b0, c4b1⟩ := zF c4
  simp only [Option.some.injEq, Prod.mk.injEq] at H
  obtain ⟨rfl, rfl⟩ := H
  go_enter Tryz.func14, Tryz.ntmps14
  go_wp2_with (first | ((with_reducible refine gate_dst (N := 3) rfl ?_); refine box_event ?hg (N := 3) ?hd (cs := #[.int .i64 a1]) (t := 2) ?hr ?_; (case hd => rfl); (case hg => rfl); (case hr => first | (go_simp; done) | (go_simp; rfl)); intro gb484 hg w27 hbox hb; have BK484 := Aside0.mk (hbox); have GW484 := Aside0.mk ((by rw [hg]; exact (below_size (qB HB.out)) : w.heap.size ≤ gb484)); have GE484 := Aside0.mk ((by rw [hg]; exact (below_size (qB HB.out)) : w.heap.size ≤ gb484)); replace HB := Aside0.mk (below_step (qB HB.out) hb); clear hb hbox hg) | ((with_reducible refine gate_dst (N := 10) rfl ?_); refine Kd.R_lit Kd.string _ 9 ?hg (N := 10) ?hd (xs := ([a0] : List ByteArray)) (inner := [.string a0]) (ok := fun _ => True) (okp := fun _ => True) ?hr ?hp (fun _ hk => hk) trivial (Below.refl _ _) (Nat.le_refl _) (by simp) ?_; (case hd => rfl); (case hg => rfl); (case hr => first | (go_simp; done) | (go_simp; rfl)); (case hp => exact (Reps.one (show Kd.M Kd.string _ _ _ a0 [.string a0] from rfl) (Reps.none _ _))); intro v486 w28 ho29 hb hg_ hnew_; clear hg_ hnew_; (first | rw [← Ny485.out] at ho29 | (simp only [Int.reduceToNat] at ho29; rw [← Ny485.out] at ho29)); have HO487 := Aside0.mk (Kd.R_lower ho29 (below_size (qG HB.out))); replace BK484 := Aside0.mk (blk_below (g := gb484) (o := .cells #[.int .i64 a1] 2 (0, 0)) (qA BK484.out) hb); replace HB := Aside0.mk (below_step (qG HB.out) hb); clear hb ho29; obtain ⟨Ao30, co30, eo30⟩ := Kd.R_slice HO487.out; subst eo30) | ((with_reducible refine gate_callee (f := 35) rfl ?_); refine goesL_ (some 11) rfl rfl Tryz.func35 (by kernel_rfl) rfl #[.func (.func 47) #[] #[.pointer (some ⟨gb484, 0, none⟩)], .slice Ao30 y485.length co30] rfl qV ?_; (with_reducible refine (impl_wordCode.calls k (impl_CountCycles_1.f a1) 47 #[.pointer (some ⟨gb484, 0, none⟩)] _ _ y485 t488 _ ?side1 ?side2 ?side3 A3.out).mono ?_); (case side1 => exact qC (Kd.R_reads' HO487.out).2.2); (case side2 => exact (Kd.R_reads' HO487.out).2.1); (case side3 => exact ⟨Go.Proofs.enters_of Tryz.func47 (by kernel_rfl) rfl, fun W_ hW_ r_ h_ => (impl_CountCycles_1.calls gb484 a1 r_ W_ (blk_below (g := gb484) (o := .cells #[.int .i64 a1] 2 (0, 0)) (qA BK484.out) hW_) h_).mono (fun e_ W2_ h2_ => ⟨h2_.1, by first | exact h2_.2 | exact h2_.2.below⟩)⟩); rintro e w31 ⟨rfl, hb⟩; refine ⟨_, rfl, ?_⟩; replace HO487 := Aside0.mk (Kd.R_below (qR HO487.out) hb); replace BK484 := Aside0.mk (blk_below (g := gb484) (o := .cells #[.int .i64 a1] 2 (0, 0)) (qA BK484.out) hb); replace HB := Aside0.mk (below_step (qG HB.out) hb)))
  go_ret2
  exact ⟨qE, qG HB.out⟩

 rw [if_pos c4] at H
 obtain ⟨c4b0, c4b1⟩ := zT c4
 clear c4
 replace H := qN H
 obtain ⟨t489, A5, H⟩ := H
 try dsimp only at H
 by_cases c6 : (t489.length : Int) = 0
 ·
  rw [if_pos c6] at H
  obtain ⟨c6b0, c6b1⟩ := zT c6
  clear c6
  simp only [Option.some.injEq, Prod.mk.injEq] at H
  obtain ⟨rfl, rfl⟩ := H
  go_enter Tryz.func14, Tryz.ntmps14
  go_wp2_with (first | ((with_reducible refine gate_dst (N := 3) rfl ?_); refine box_event ?hg (N := 3) ?hd (cs := #[.int .i64 a1]) (t := 2) ?hr ?_; (case hd => rfl); (case hg => rfl); (case hr => first | (go_simp; done) | (go_simp; rfl)); intro gb484 hg w7 hbox hb; have BK484 := Aside0.mk (hbox); have GW484 := Aside0.mk ((by rw [hg]; exact (below_size (qB HB.out)) : w.heap.size ≤ gb484)); have GE484 := Aside0.mk ((by rw [hg]; exact (below_size (qB HB.out)) : w.heap.size ≤ gb484)); replace HB := Aside0.mk (below_step (qB HB.out) hb); clear hb hbox hg) | ((with_reducible refine gate_dst (N := 10) rfl ?_); refine Kd.R_lit Kd.string _ 9 ?hg (N := 10) ?hd (xs := ([a0] : List ByteArray)) (inner := [.string a0]) (ok := fun _ => True) (okp := fun _ => True) ?hr ?hp (fun _ hk => hk) trivial (Below.refl _ _) (Nat.le_refl _) (by simp) ?_; (case hd => rfl); (case hg => rfl); (case hr => first | (go_simp; done) | (go_simp; rfl)); (case hp => exact (Reps.one (show Kd.M Kd.string _ _ _ a0 [.string a0] from rfl) (Reps.none _ _))); intro v486 w8 ho9 hb hg_ hnew_; clear hg_ hnew_; (first | rw [← Ny485.out] at ho9 | (simp only [Int.reduceToNat] at ho9; rw [← Ny485.out] at ho9)); have HO487 := Aside0.mk (Kd.R_lower ho9 (below_size (qG HB.out))); replace BK484 := Aside0.mk (blk_below (g := gb484) (o := .cells #[.int .i64 a1] 2 (0, 0)) (qA BK484.out) hb); replace HB := Aside0.mk (below_step (qG HB.out) hb); clear hb ho9; obtain ⟨Ao10, co10, eo10⟩ := Kd.R_slice HO487.out; subst eo10) | ((with_reducible refine gate_callee (f := 35) rfl ?_); refine goesL_ (some 11) rfl rfl Tryz.func35 (by kernel_rfl) rfl #[.func (.func 47) #[] #[.pointer (some ⟨gb484, 0, none⟩)], .slice Ao10 y485.length co10] rfl qV ?_; (with_reducible refine (impl_wordCode.calls k (impl_CountCycles_1.f a1) 47 #[.pointer (some ⟨gb484, 0, none⟩)] _ _ y485 t488 _ ?side1 ?side2 ?side3 A3.out).mono ?_); (case side1 => exact qC (Kd.R_reads' HO487.out).2.2); (case side2 => exact (Kd.R_reads' HO487.out).2.1); (case side3 => exact ⟨Go.Proofs.enters_of Tryz.func47 (by kernel_rfl) rfl, fun W_ hW_ r_ h_ => (impl_CountCycles_1.calls gb484 a1 r_ W_ (blk_below (g := gb484) (o := .cells #[.int .i64 a1] 2 (0, 0)) (qA BK484.out) hW_) h_).mono (fun e_ W2_ h2_ => ⟨h2_.1, by first | exact h2_.2 | exact h2_.2.below⟩)⟩); rintro e w11 ⟨rfl, hb⟩; refine ⟨_, rfl, ?_⟩; replace HO487 := Aside0.mk (Kd.R_below (qR HO487.out) hb); replace BK484 := Aside0.mk (blk_below (g := gb484) (o := .cells #[.int .i64 a1] 2 (0, 0)) (qA BK484.out) hb); replace HB := Aside0.mk (below_step (qG HB.out) hb); have hcz12_0 : w11.cell? ⟨gb484, 0, none⟩ = some (.int .i64 a1) := (blk_cell BK484.out 0).trans rfl; have hfz12_0 := blk_frozen BK484.out 0) | ((with_reducible refine gate_callee (f := 43) rfl ?_); refine goesL_ (some 17) rfl rfl Tryz.func43 (by kernel_rfl) rfl #[.string a0, .int .i64 a1] rfl qV ?_; (with_reducible refine (impl_factors.calls k a0 a1 t489 _ A5.out).mono ?_); rintro e w13 ⟨v490, rfl, ho0, hb⟩; refine ⟨_, rfl, ?_⟩; have HO491 := Aside0.mk (Kd.R_lower (Kd.R_new' ho0 (Kd.R_lt (qR HO487.out))) (below_size (qG HB.out))); replace HO487 := Aside0.mk (Kd.R_elder' (qR HO487.out) (Kd.R_base ho0) hb); replace BK484 := Aside0.mk (blk_below (g := gb484) (o := .cells #[.int .i64 a1] 2 (0, 0)) (qA BK484.out) hb); replace HB := Aside0.mk (below_step (qG HB.out) hb); obtain ⟨Ao14, co14, eo14⟩ := Kd.R_slice HO491.out; subst eo14))
  go_ret2
  exact ⟨qE, qG HB.out⟩
 rw [if_neg c6] at H
 obtain ⟨c6b0, c6b1⟩ := zF c6
 have c6b2 : ¬ (t489 = []) := fun h_ => c6 (by rw [h_]; rfl)
 replace H := qN H
 obtain ⟨t492, A15, H⟩ := H
 try dsimp only at H
 simp only [Option.some.injEq, Prod.mk.injEq] at H
 obtain ⟨rfl, rfl⟩ := H
 go_enter Tryz.func14, Tryz.ntmps14
 go_wp2_with (first | ((with_reducible refine gate_dst (N := 3) rfl ?_); refine box_event ?hg (N := 3) ?hd (cs := #[.int .i64 a1]) (t := 2) ?hr ?_; (case hd => rfl); (case hg => rfl); (case hr => first | (go_simp; done) | (go_simp; rfl)); intro gb484 hg w16 hbox hb; have BK484 := Aside0.mk (hbox); have GW484 := Aside0.mk ((by rw [hg]; exact (below_size (qB HB.out)) : w.heap.size ≤ gb484)); have GE484 := Aside0.mk ((by rw [hg]; exact (below_size (qB HB.out)) : w.heap.size ≤ gb484)); replace HB := Aside0.mk (below_step (qB HB.out) hb); clear hb hbox hg) | ((with_reducible refine gate_dst (N := 10) rfl ?_); refine Kd.R_lit Kd.string _ 9 ?hg (N := 10) ?hd (xs := ([a0] : List ByteArray)) (inner := [.string a0]) (ok := fun _ => True) (okp := fun _ => True) ?hr ?hp (fun _ hk => hk) trivial (Below.refl _ _) (Nat.le_refl _) (by simp) ?_; (case hd => rfl); (case hg => rfl); (case hr => first | (go_simp; done) | (go_simp; rfl)); (case hp => exact (Reps.one (show Kd.M Kd.string _ _ _ a0 [.string a0] from rfl) (Reps.none _ _))); intro v486 w17 ho18 hb hg_ hnew_; clear hg_ hnew_; (first | rw [← Ny485.out] at ho18 | (simp only [Int.reduceToNat] at ho18; rw [← Ny485.out] at ho18)); have HO487 := Aside0.mk (Kd.R_lower ho18 (below_size (qG HB.out))); replace BK484 := Aside0.mk (blk_below (g := gb484) (o := .cells #[.int .i64 a1] 2 (0, 0)) (qA BK484.out) hb); replace HB := Aside0.mk (below_step (qG HB.out) hb); clear hb ho18; obtain ⟨Ao19, co19, eo19⟩ := Kd.R_slice HO487.out; subst eo19) | ((with_reducible refine gate_callee (f := 35) rfl ?_); refine goesL_ (some 11) rfl rfl Tryz.func35 (by kernel_rfl) rfl #[.func (.func 47) #[] #[.pointer (some ⟨gb484, 0, none⟩)], .slice Ao19 y485.length co19] rfl qV ?_; (with_reducible refine (impl_wordCode.calls k (impl_CountCycles_1.f a1) 47 #[.pointer (some ⟨gb484, 0, none⟩)] _ _ y485 t488 _ ?side1 ?side2 ?side3 A3.out).mono ?_); (case side1 => exact qC (Kd.R_reads' HO487.out).2.2); (case side2 => exact (Kd.R_reads' HO487.out).2.1); (case side3 => exact ⟨Go.Proofs.enters_of Tryz.func47 (by kernel_rfl) rfl, fun W_ hW_ r_ h_ => (impl_CountCycles_1.calls gb484 a1 r_ W_ (blk_below (g := gb484) (o := .cells #[.int .i64 a1] 2 (0, 0)) (qA BK484.out) hW_) h_).mono (fun e_ W2_ h2_ => ⟨h2_.1, by first | exact h2_.2 | exact h2_.2.below⟩)⟩); rintro e w20 ⟨rfl, hb⟩; refine ⟨_, rfl, ?_⟩; replace HO487 := Aside0.mk (Kd.R_below (qR HO487.out) hb); replace BK484 := Aside0.mk (blk_below (g := gb484) (o := .cells #[.int .i64 a1] 2 (0, 0)) (qA BK484.out) hb); replace HB := Aside0.mk (below_step (qG HB.out) hb); have hcz21_0 : w20.cell? ⟨gb484, 0, none⟩ = some (.int .i64 a1) := (blk_cell BK484.out 0).trans rfl; have hfz21_0 := blk_frozen BK484.out 0) | ((with_reducible refine gate_callee (f := 43) rfl ?_); refine goesL_ (some 17) rfl rfl Tryz.func43 (by kernel_rfl) rfl #[.string a0, .int .i64 a1] rfl qV ?_; (with_reducible refine (impl_factors.calls k a0 a1 t489 _ A5.out).mono ?_); rintro e w22 ⟨v490, rfl, ho0, hb⟩; refine ⟨_, rfl, ?_⟩; have HO491 := Aside0.mk (Kd.R_lower (Kd.R_new' ho0 (Kd.R_lt (qR HO487.out))) (below_size (qG HB.out))); replace HO487 := Aside0.mk (Kd.R_elder' (qR HO487.out) (Kd.R_base ho0) hb); replace BK484 := Aside0.mk (blk_below (g := gb484) (o := .cells #[.int .i64 a1] 2 (0, 0)) (qA BK484.out) hb); replace HB := Aside0.mk (below_step (qG HB.out) hb); obtain ⟨Ao23, co23, eo23⟩ := Kd.R_slice HO491.out; subst eo23; have hcz24_0 : w22.cell? ⟨gb484, 0, none⟩ = some (.int .i64 a1) := (blk_cell BK484.out 0).trans rfl; have hfz24_0 := blk_frozen BK484.out 0) | ((with_reducible refine gate_callee (f := 43) rfl ?_); refine goesL_ (some 24) rfl rfl Tryz.func43 (by kernel_rfl) rfl #[.string a0, .int .i64 (wrap64 (a1 + 1))] rfl qV ?_; (with_reducible refine (impl_factors.calls k a0 (wrap64 (a1 + 1)) t492 _ A15.out).mono ?_); rintro e w25 ⟨v493, rfl, ho0, hb⟩; refine ⟨_, rfl, ?_⟩; have HO494 := Aside0.mk (Kd.R_lower (Kd.R_new' (Kd.R_new' ho0 (Kd.R_lt (qR HO487.out))) (Kd.R_lt (qR HO491.out))) (below_size (qG HB.out))); replace HO487 := Aside0.mk (Kd.R_elder' (qR HO487.out) (Kd.R_base ho0) hb); replace HO491 := Aside0.mk (Kd.R_elder' (qR HO491.out) (Kd.R_base ho0) hb); replace BK484 := Aside0.mk (blk_below (g := gb484) (o := .cells #[.int .i64 a1] 2 (0, 0)) (qA BK484.out) hb); replace HB := Aside0.mk (below_step (qG HB.out) hb); obtain ⟨Ao26, co26, eo26⟩ := Kd.R_slice HO494.out; subst eo26))
 go_ret2
 exact ⟨qE, qG HB.out⟩
end Go.Proofs.YtgfnkdoennbipaaGreat.PF

namespace Go.Proofs.YtgfnkdoennbipaaGreat.PF
open Go.RowKit Go.Proofs.YtgfnkdoennbipaaGreatW.PrintWords Go.Proofs.YtgfnkdoennbipaaGreatW.PrintLast Go.Proofs.YtgfnkdoennbipaaGreatW.PrintMore
attribute [local go_sem] max2_int min2_int max_two min_two max_three min_three max_four min_four   -- for this text's walks alone
set_option linter.unusedVariables false
set_option linter.unusedSimpArgs false

/-! ### impl_FactorsOf: function 18 -/
def impl_FactorsOf.f (k : Nat) (a0 : ByteArray) (a1 : Int) : Option (List ByteArray × Int) := (impl_wordCode.f k (impl_FactorsOf_1.f a1) (([a0] : List ByteArray))).bind fun t515 => (if t515 = 0 then ((impl_factors.f k a0 a1).bind fun t516 => (some (t516, 0))) else (some (([] : List ByteArray), t515)))
theorem impl_FactorsOf.mono : ∀ a0 a1 k, LeO (impl_FactorsOf.f k a0 a1) (impl_FactorsOf.f (k + 1) a0 a1) := by
 intro a0 a1 k
 unfold impl_FactorsOf.f
 repeat' first
   | (with_reducible exact impl_factors.mono _ _ _)
   | (with_reducible exact LeO.refl _)
   | (with_reducible exact LeO.none _)
   | (with_reducible refine LeO.ite ?_ ?_)
   | (with_reducible refine LeO.bind ?_ (fun _ => ?_))
   | refine impl_wordCode.monoP ?_
set_option maxHeartbeats 8000000 in
set_option maxRecDepth 100000 in
theorem impl_FactorsOf.calls (k : Nat) (a0 : ByteArray) (a1 : Int) (r1 : List ByteArray) (r2 : Int) (w : World) (h : impl_FactorsOf.f k a0 a1 = some (r1, r2)) :
  Calls Tryz.prog 18 #[.string a0, .int .i64 a1] w fun e w' => ∃ v0_ : Value, e = .returned (.tuple #[v0_, .int .i64 r2]) ∧ Kd.R Kd.string 9 w' w.heap.size (fun _ => True) v0_ r1 ∧ Below w.heap.size w w' := by
 have HB := Aside0.mk (Below.refl w.heap.size w)
 have H : ((impl_wordCode.f k (impl_FactorsOf_1.f a1) (([a0] : List ByteArray))).bind fun t515 => (if t515 = 0 then ((impl_factors.f k a0 a1).bind fun t516 => (some (t516, 0))) else (some (([] : List ByteArray), t515)))) = some (r1, r2) := h
 clear h
 obtain ⟨y512, hy512⟩ : ∃ y_ : List ByteArray, y_ = (([a0] : List ByteArray)) := ⟨_, rfl⟩
 replace H : ((impl_wordCode.f k (impl_FactorsOf_1.f a1) y512).bind fun t515 => (if t515 = 0 then ((impl_factors.f k a0 a1).bind fun t516 => (some (t516, 0))) else (some (([] : List ByteArray), t515)))) = some (r1, r2) := by first | (rw [hy512]; with_reducible exact H) | (have H2_ := (Option.bind_some _ _).symm.trans H; rw [hy512]; with_reducible exact H2_) | (have H2_ := (Option.bind_some _ _).symm.trans H; with_reducible exact H2_) | with_reducible exact H | (rw [hy512]; exact H) | exact H
 have Ny512 := Aside0.mk hy512
 clear hy512
 replace H := qN H
 obtain ⟨t515, A3, H⟩ := H
 try dsimp only at H
 by_cases c4 : t515 = 0
 rotate_left
 ·
  rw [if_neg c4] at H
  obtain ⟨c4b0, c4b1⟩ := zF c4
  simp only [Option.some.injEq, Prod.mk.injEq] at H
  obtain ⟨rfl, rfl⟩ := H
  go_enter Tryz.func18, Tryz.ntmps18
  go_wp2_with (first | ((with_reducible refine gate_dst (N := 3) rfl ?_); refine box_event ?hg (N := 3) ?hd (cs := #[.int .i64 a1]) (t := 2) ?hr ?_; (case hd => rfl); (case hg => rfl); (case hr => first | (go_simp; done) | (go_simp; rfl)); intro gb511 hg w13 hbox hb; have BK511 := Aside0.mk (hbox); have GW511 := Aside0.mk ((by rw [hg]; exact (below_size (qB HB.out)) : w.heap.size ≤ gb511)); have GE511 := Aside0.mk ((by rw [hg]; exact (below_size (qB HB.out)) : w.heap.size ≤ gb511)); replace HB := Aside0.mk (below_step (qB HB.out) hb); clear hb hbox hg) | ((with_reducible refine gate_dst (N := 9) rfl ?_); refine Kd.R_lit Kd.string _ 9 ?hg (N := 9) ?hd (xs := ([a0] : List ByteArray)) (inner := [.string a0]) (ok := fun _ => True) (okp := fun _ => True) ?hr ?hp (fun _ hk => hk) trivial (Below.refl _ _) (Nat.le_refl _) (by simp) ?_; (case hd => rfl); (case hg => rfl); (case hr => first | (go_simp; done) | (go_simp; rfl)); (case hp => exact (Reps.one (show Kd.M Kd.string _ _ _ a0 [.string a0] from rfl) (Reps.none _ _))); intro v513 w14 ho15 hb hg_ hnew_; clear hg_ hnew_; (first | rw [← Ny512.out] at ho15 | (simp only [Int.reduceToNat] at ho15; rw [← Ny512.out] at ho15)); have HO514 := Aside0.mk (Kd.R_lower ho15 (below_size (qG HB.out))); replace BK511 := Aside0.mk (blk_below (g := gb511) (o := .cells #[.int .i64 a1] 2 (0, 0)) (qA BK511.out) hb); replace HB := Aside0.mk (below_step (qG HB.out) hb); clear hb ho15; obtain ⟨Ao16, co16, eo16⟩ := Kd.R_slice HO514.out; subst eo16) | ((with_reducible refine gate_callee (f := 35) rfl ?_); refine goesL_ (some 10) rfl rfl Tryz.func35 (by kernel_rfl) rfl #[.func (.func 48) #[] #[.pointer (some ⟨gb511, 0, none⟩)], .slice Ao16 y512.length co16] rfl qV ?_; (with_reducible refine (impl_wordCode.calls k (impl_FactorsOf_1.f a1) 48 #[.pointer (some ⟨gb511, 0, none⟩)] _ _ y512 t515 _ ?side1 ?side2 ?side3 A3.out).mono ?_); (case side1 => exact qC (Kd.R_reads' HO514.out).2.2); (case side2 => exact (Kd.R_reads' HO514.out).2.1); (case side3 => exact ⟨Go.Proofs.enters_of Tryz.func48 (by kernel_rfl) rfl, fun W_ hW_ r_ h_ => (impl_FactorsOf_1.calls gb511 a1 r_ W_ (blk_below (g := gb511) (o := .cells #[.int .i64 a1] 2 (0, 0)) (qA BK511.out) hW_) h_).mono (fun e_ W2_ h2_ => ⟨h2_.1, by first | exact h2_.2 | exact h2_.2.below⟩)⟩); rintro e w17 ⟨rfl, hb⟩; refine ⟨_, rfl, ?_⟩; replace HO514 := Aside0.mk (Kd.R_below (qR HO514.out) hb); replace BK511 := Aside0.mk (blk_below (g := gb511) (o := .cells #[.int .i64 a1] 2 (0, 0)) (qA BK511.out) hb); replace HB := Aside0.mk (below_step (qG HB.out) hb)))
  go_ret2
  exact ⟨_, qE, by first | exact Kd.R_nil _ _ _ _ _ | exact Kd.N_nil _ _ _ _ _ | exact Kd.V_nil _ _ _ _ _ | exact Kd.Q_nil _ _ _ _ _ | exact Kd.S_nil _ _ _ _ _, qG HB.out⟩

 rw [if_pos c4] at H
 obtain ⟨c4b0, c4b1⟩ := zT c4
 clear c4
 replace H := qN H
 obtain ⟨t516, A5, H⟩ := H
 try dsimp only at H
 simp only [Option.some.injEq, Prod.mk.injEq] at H
 obtain ⟨rfl, rfl⟩ := H
 go_enter Tryz.func18, Tryz.ntmps18
 go_wp2_with (first | ((with_reducible refine gate_dst (N := 3) rfl ?_); refine box_event ?hg (N := 3) ?hd (cs := #[.int .i64 a1]) (t := 2) ?hr ?_; (case hd => rfl); (case hg => rfl); (case hr => first | (go_simp; done) | (go_simp; rfl)); intro gb511 hg w6 hbox hb; have BK511 := Aside0.mk (hbox); have GW511 := Aside0.mk ((by rw [hg]; exact (below_size (qB HB.out)) : w.heap.size ≤ gb511)); have GE511 := Aside0.mk ((by rw [hg]; exact (below_size (qB HB.out)) : w.heap.size ≤ gb511)); replace HB := Aside0.mk (below_step (qB HB.out) hb); clear hb hbox hg) | ((with_reducible refine gate_dst (N := 9) rfl ?_); refine Kd.R_lit Kd.string _ 9 ?hg (N := 9) ?hd (xs := ([a0] : List ByteArray)) (inner := [.string a0]) (ok := fun _ => True) (okp := fun _ => True) ?hr ?hp (fun _ hk => hk) trivial (Below.refl _ _) (Nat.le_refl _) (by simp) ?_; (case hd => rfl); (case hg => rfl); (case hr => first | (go_simp; done) | (go_simp; rfl)); (case hp => exact (Reps.one (show Kd.M Kd.string _ _ _ a0 [.string a0] from rfl) (Reps.none _ _))); intro v513 w7 ho8 hb hg_ hnew_; clear hg_ hnew_; (first | rw [← Ny512.out] at ho8 | (simp only [Int.reduceToNat] at ho8; rw [← Ny512.out] at ho8)); have HO514 := Aside0.mk (Kd.R_lower ho8 (below_size (qG HB.out))); replace BK511 := Aside0.mk (blk_below (g := gb511) (o := .cells #[.int .i64 a1] 2 (0, 0)) (qA BK511.out) hb); replace HB := Aside0.mk (below_step (qG HB.out) hb); clear hb ho8; obtain ⟨Ao9, co9, eo9⟩ := Kd.R_slice HO514.out; subst eo9) | ((with_reducible refine gate_callee (f := 35) rfl ?_); refine goesL_ (some 10) rfl rfl Tryz.func35 (by kernel_rfl) rfl #[.func (.func 48) #[] #[.pointer (some ⟨gb511, 0, none⟩)], .slice Ao9 y512.length co9] rfl qV ?_; (with_reducible refine (impl_wordCode.calls k (impl_FactorsOf_1.f a1) 48 #[.pointer (some ⟨gb511, 0, none⟩)] _ _ y512 t515 _ ?side1 ?side2 ?side3 A3.out).mono ?_); (case side1 => exact qC (Kd.R_reads' HO514.out).2.2); (case side2 => exact (Kd.R_reads' HO514.out).2.1); (case side3 => exact ⟨Go.Proofs.enters_of Tryz.func48 (by kernel_rfl) rfl, fun W_ hW_ r_ h_ => (impl_FactorsOf_1.calls gb511 a1 r_ W_ (blk_below (g := gb511) (o := .cells #[.int .i64 a1] 2 (0, 0)) (qA BK511.out) hW_) h_).mono (fun e_ W2_ h2_ => ⟨h2_.1, by first | exact h2_.2 | exact h2_.2.below⟩)⟩); rintro e w10 ⟨rfl, hb⟩; refine ⟨_, rfl, ?_⟩; replace HO514 := Aside0.mk (Kd.R_below (qR HO514.out) hb); replace BK511 := Aside0.mk (blk_below (g := gb511) (o := .cells #[.int .i64 a1] 2 (0, 0)) (qA BK511.out) hb); replace HB := Aside0.mk (below_step (qG HB.out) hb); have hcz11_0 : w10.cell? ⟨gb511, 0, none⟩ = some (.int .i64 a1) := (blk_cell BK511.out 0).trans rfl; have hfz11_0 := blk_frozen BK511.out 0) | ((with_reducible refine gate_callee (f := 43) rfl ?_); refine goesL_ (some 16) rfl rfl Tryz.func43 (by kernel_rfl) rfl #[.string a0, .int .i64 a1] rfl qV ?_; (with_reducible refine (impl_factors.calls k a0 a1 t516 _ A5.out).mono ?_); rintro e w12 ⟨v517, rfl, ho0, hb⟩; refine ⟨_, rfl, ?_⟩; have HO518 := Aside0.mk (Kd.R_lower (Kd.R_new' ho0 (Kd.R_lt (qR HO514.out))) (below_size (qG HB.out))); replace HO514 := Aside0.mk (Kd.R_elder' (qR HO514.out) (Kd.R_base ho0) hb); replace BK511 := Aside0.mk (blk_below (g := gb511) (o := .cells #[.int .i64 a1] 2 (0, 0)) (qA BK511.out) hb); replace HB := Aside0.mk (below_step (qG HB.out) hb)))
 go_ret2
 exact ⟨_, qE, by (with_reducible repeat (first | apply Kd.R_alloc | apply Kd.R_drewN | apply Kd.R_drew)); exact Kd.R_mono HO518.out (fun _ hk => trivial), qG HB.out⟩
end Go.Proofs.YtgfnkdoennbipaaGreat.PF

namespace Go.Proofs.YtgfnkdoennbipaaGreat.PF
open Go.RowKit Go.Proofs.YtgfnkdoennbipaaGreatW.PrintWords Go.Proofs.YtgfnkdoennbipaaGreatW.PrintLast Go.Proofs.YtgfnkdoennbipaaGreatW.PrintMore
attribute [local go_sem] max2_int min2_int max_two min_two max_three min_three max_four min_four   -- for this text's walks alone
set_option linter.unusedVariables false
set_option linter.unusedSimpArgs false

/-! ### impl_complexity: function 52 -/
def impl_complexity.l0 : Nat → ByteArray → List Int → Int → Int → Option (List Int)
 | 0, _, _, _, _ => none
 | k + 1, x0, x3, x7, x8 => if x8 < x7 then ((impl_factors.f k x0 x8).bind fun t526 => (if x3.length < 17592186044416 then (impl_complexity.l0 k x0 (x3 ++ [(t526.length : Int)]) x7 (wrap64 (x8 + 1))) else (none))) else (some x3)
def impl_complexity.f (k : Nat) (a0 : ByteArray) : Option (List Int) := impl_complexity.l0 k a0 ([] : List Int) (wrap64 ((a0.size : Int) + 1)) 0
theorem impl_complexity.mono_l : ∀ k, (∀ y0 y1 y2 y3, LeO (impl_complexity.l0 k y0 y1 y2 y3) (impl_complexity.l0 (k + 1) y0 y1 y2 y3))
 | 0 => fun _ _ _ _ r h => by simp [impl_complexity.l0] at h
 | k + 1 => by
  have ih0 := impl_complexity.mono_l k
  ·
   intro y0 y1 y2 y3
   unfold impl_complexity.l0
   with_reducible repeat' first
   | exact ih0 _ _ _ _
   | exact impl_factors.mono _ _ _
   | exact LeO.refl _
   | exact LeO.none _
   | refine LeO.ite ?_ ?_
   | refine LeO.bind ?_ (fun _ => ?_)
theorem impl_complexity.mono : ∀ a0 k, LeO (impl_complexity.f k a0) (impl_complexity.f (k + 1) a0) := by
 intro a0 k
 have ih0 := impl_complexity.mono_l k
 unfold impl_complexity.f
 with_reducible repeat' first
   | exact ih0 _ _ _ _
   | exact impl_factors.mono _ _ _
   | exact LeO.refl _
   | exact LeO.none _
   | refine LeO.ite ?_ ?_
   | refine LeO.bind ?_ (fun _ => ?_)
set_option maxHeartbeats 8000000 in
set_option maxRecDepth 100000 in
theorem impl_complexity.calls (k : Nat) (a0 : ByteArray) (r : List Int) (w : World) (h : impl_complexity.f k a0 = some r) :
  Calls Tryz.prog 52 #[.string a0] w fun e w' => ∃ v0_ : Value, e = .returned (v0_) ∧ Kd.R (Kd.int .i64) 2 w' w.heap.size (fun _ => True) v0_ r ∧ Below w.heap.size w w' := by
 have HB := Aside0.mk (Below.refl w.heap.size w)
 have H : (impl_complexity.l0 k a0 ([] : List Int) (wrap64 ((a0.size : Int) + 1)) 0) = some r := h
 clear h
 have H' := Aside0.mk H
 clear H
 go_enter Tryz.func52, Tryz.ntmps52
 go_wp2
 go_loopg [3, 8] k (fun kq v3 v8 w' => ∃ (x3_1 : List Int) (x8_1 : Int), v8 = .int .i64 x8_1 ∧ Aside0 (impl_complexity.l0 kq a0 x3_1 (wrap64 ((a0.size : Int) + 1)) x8_1 = some r) ∧ Aside0 (kq ≤ k) ∧ Aside0 (Kd.R (Kd.int .i64) 2 w' w.heap.size (fun _ => True) v3 x3_1) ∧ Aside0 (Below w.heap.size w w'))
 case atStart => exact ⟨(([] : List Int)), (0), qF, H', ⟨Nat.le_refl _⟩, ⟨by first | exact Kd.R_nil _ _ _ _ _ | exact Kd.N_nil _ _ _ _ _ | exact Kd.V_nil _ _ _ _ _ | exact Kd.Q_nil _ _ _ _ _ | exact Kd.S_nil _ _ _ _ _⟩, ⟨qB HB.out⟩⟩
 case round =>
  clear H'
  obtain ⟨x3_1, x8_1, rfl, HA, HK1, HO_3, HB⟩ := hrel
  cases gk with
  | zero => exact absurd HA.out (by simp [impl_complexity.l0])
  | succ k1 =>
   have H := HA.out
   clear HA
   simp only [impl_complexity.l0] at H
   by_cases c2 : x8_1 < (wrap64 ((a0.size : Int) + 1))
   rotate_left
   ·
    rw [if_neg c2] at H
    have c2b0 : decide (x8_1 < (wrap64 ((a0.size : Int) + 1))) = false := decide_eq_false c2
    clear c2
    obtain rfl := Option.some.inj H
    go_wp2
    go_ret
    exact ⟨_, qE, qR HO_3.out, qB HB.out⟩

   rw [if_pos c2] at H
   have c2b0 : decide (x8_1 < (wrap64 ((a0.size : Int) + 1))) = true := decide_eq_true c2
   clear c2
   replace H := qN H
   obtain ⟨t526, A3, H⟩ := H
   try dsimp only at H
   by_cases c4 : x3_1.length < 17592186044416
   rotate_left
   ·
    rw [if_neg c4] at H
    exact absurd H (by simp)
   rw [if_pos c4] at H
   have LMc4 := Aside0.mk c4
   clear c4
   obtain ⟨y529, hy529⟩ : ∃ y_ : List Int, y_ = (x3_1 ++ [(t526.length : Int)]) := ⟨_, rfl⟩
   replace H : (impl_complexity.l0 k1 a0 y529 (wrap64 ((a0.size : Int) + 1)) (wrap64 (x8_1 + 1))) = some r := by first | (rw [hy529]; with_reducible exact H) | (have H2_ := (Option.bind_some _ _).symm.trans H; rw [hy529]; with_reducible exact H2_) | (have H2_ := (Option.bind_some _ _).symm.trans H; with_reducible exact H2_) | with_reducible exact H | (rw [hy529]; exact H) | exact H
   have Ny529 := Aside0.mk hy529
   clear hy529
   have H' := Aside0.mk H
   clear H
   go_wp2_with (first | ((with_reducible refine gate_callee (f := 43) rfl ?_); refine goesL_ (some 14) rfl rfl Tryz.func43 (by kernel_rfl) rfl #[.string a0, .int .i64 x8_1] rfl qV ?_; (with_reducible refine (impl_factors.calls k1 a0 x8_1 t526 _ A3.out).mono ?_); rintro e w5 ⟨v527, rfl, ho0, hb⟩; refine ⟨_, rfl, ?_⟩; replace HO_3 := Aside0.mk (Kd.R_below (qR HO_3.out) hb); have HO528 := Aside0.mk (Kd.R_lower ho0 (below_size (qB HB.out))); replace HB := Aside0.mk (below_step (qB HB.out) hb); obtain ⟨Ao6, co6, eo6⟩ := Kd.R_slice HO528.out; subst eo6) | ((with_reducible refine gate_builtin (b := .append) (xs := #[.tmp 11, .tmp 16]) rfl ?_); at_builtin; refine Kd.R_append (Kd.int .i64) (w0 := w) w.heap.size rfl (.tmp 11) (.tmp 16) 36 2 (.int .i64 0) 8 rfl Tryz.underlying36 info2 rfl (by decide) (by omega) u3 x3_1 (t526.length : Int) [.int .i64 (t526.length : Int)] (fun _ => True) (fun _ => False) rfl rfl ?aP (fun _ hk => hk.elim) ?aF ?aO ?aB ?aS ?aL ?_; (case aP => exact rfl); (case aB => exact (qB HB.out)); (case aF => exact (fun _ _ => trivial)); (case aO => exact (qR HO_3.out)); (case aS => exact (below_size (qB HB.out))); (case aL => have := LMc4.out; omega); intro v530 w7 ho hb hg hat; rw [← Ny529.out] at ho; replace HO528 := Aside0.mk (Kd.R_over' (qR HO528.out) (Kd.R_typed (qR HO_3.out)) (by decide) hg); replace HB := Aside0.mk (hb); have HO531 := Aside0.mk (ho); clear HO_3; clear ho hb hg hat))
   go_roundg k1
   case measure => have := HK1.out; omega
   case rel => exact ⟨(y529), (wrap64 (x8_1 + 1)), qF, H', ⟨by have := HK1.out; omega⟩, ⟨qR HO531.out⟩, ⟨qB HB.out⟩⟩
end Go.Proofs.YtgfnkdoennbipaaGreat.PF

namespace Go.Proofs.YtgfnkdoennbipaaGreat.PF
open Go.RowKit Go.Proofs.YtgfnkdoennbipaaGreatW.PrintWords Go.Proofs.YtgfnkdoennbipaaGreatW.PrintLast Go.Proofs.YtgfnkdoennbipaaGreatW.PrintMore
attribute [local go_sem] max2_int min2_int max_two min_two max_three min_three max_four min_four   -- for this text's walks alone
set_option linter.unusedVariables false
set_option linter.unusedSimpArgs false

/-! ### impl_ComplexityOf: function 20 -/
def impl_ComplexityOf.f (k : Nat) (a0 : ByteArray) : Option (List Int × Int) := (impl_wordCode.f k (impl_always.f) (([a0] : List ByteArray))).bind fun t535 => (if t535 = 0 then ((impl_complexity.f k a0).bind fun t536 => (some (t536, 0))) else (some (([] : List Int), t535)))
theorem impl_ComplexityOf.mono : ∀ a0 k, LeO (impl_ComplexityOf.f k a0) (impl_ComplexityOf.f (k + 1) a0) := by
 intro a0 k
 unfold impl_ComplexityOf.f
 repeat' first
   | (with_reducible exact impl_complexity.mono _ _)
   | (with_reducible exact LeO.refl _)
   | (with_reducible exact LeO.none _)
   | (with_reducible refine LeO.ite ?_ ?_)
   | (with_reducible refine LeO.bind ?_ (fun _ => ?_))
   | refine impl_wordCode.monoP ?_
set_option maxHeartbeats 8000000 in
set_option maxRecDepth 100000 in
theorem impl_ComplexityOf.calls (k : Nat) (a0 : ByteArray) (r1 : List Int) (r2 : Int) (w : World) (h : impl_ComplexityOf.f k a0 = some (r1, r2)) :
  Calls Tryz.prog 20 #[.string a0] w fun e w' => ∃ v0_ : Value, e = .returned (.tuple #[v0_, .int .i64 r2]) ∧ Kd.R (Kd.int .i64) 2 w' w.heap.size (fun _ => True) v0_ r1 ∧ Below w.heap.size w w' := by
 have HB := Aside0.mk (Below.refl w.heap.size w)
 have H : ((impl_wordCode.f k (impl_always.f) (([a0] : List ByteArray))).bind fun t535 => (if t535 = 0 then ((impl_complexity.f k a0).bind fun t536 => (some (t536, 0))) else (some (([] : List Int), t535)))) = some (r1, r2) := h
 clear h
 obtain ⟨y532, hy532⟩ : ∃ y_ : List ByteArray, y_ = (([a0] : List ByteArray)) := ⟨_, rfl⟩
 replace H : ((impl_wordCode.f k (impl_always.f) y532).bind fun t535 => (if t535 = 0 then ((impl_complexity.f k a0).bind fun t536 => (some (t536, 0))) else (some (([] : List Int), t535)))) = some (r1, r2) := by first | (rw [hy532]; with_reducible exact H) | (have H2_ := (Option.bind_some _ _).symm.trans H; rw [hy532]; with_reducible exact H2_) | (have H2_ := (Option.bind_some _ _).symm.trans H; with_reducible exact H2_) | with_reducible exact H | (rw [hy532]; exact H) | exact H
 have Ny532 := Aside0.mk hy532
 clear hy532
 replace H := qN H
 obtain ⟨t535, A2, H⟩ := H
 try dsimp only at H
 by_cases c3 : t535 = 0
 rotate_left
 ·
  rw [if_neg c3] at H
  obtain ⟨c3b0, c3b1⟩ := zF c3
  simp only [Option.some.injEq, Prod.mk.injEq] at H
  obtain ⟨rfl, rfl⟩ := H
  go_enter Tryz.func20, Tryz.ntmps20
  go_wp2_with (first | ((with_reducible refine gate_dst (N := 6) rfl ?_); refine Kd.R_lit Kd.string _ 9 ?hg (N := 6) ?hd (xs := ([a0] : List ByteArray)) (inner := [.string a0]) (ok := fun _ => True) (okp := fun _ => True) ?hr ?hp (fun _ hk => hk) trivial (Below.refl _ _) (Nat.le_refl _) (by simp) ?_; (case hd => rfl); (case hg => rfl); (case hr => first | (go_simp; done) | (go_simp; rfl)); (case hp => exact (Reps.one (show Kd.M Kd.string _ _ _ a0 [.string a0] from rfl) (Reps.none _ _))); intro v533 w10 ho11 hb hg_ hnew_; clear hg_ hnew_; (first | rw [← Ny532.out] at ho11 | (simp only [Int.reduceToNat] at ho11; rw [← Ny532.out] at ho11)); have HO534 := Aside0.mk (Kd.R_lower ho11 (below_size (qB HB.out))); replace HB := Aside0.mk (below_step (qB HB.out) hb); clear hb ho11; obtain ⟨Ao12, co12, eo12⟩ := Kd.R_slice HO534.out; subst eo12) | ((with_reducible refine gate_callee (f := 35) rfl ?_); refine goesL_ (some 7) rfl rfl Tryz.func35 (by kernel_rfl) rfl #[.func (.func 51) #[] #[], .slice Ao12 y532.length co12] rfl qV ?_; (with_reducible refine (impl_wordCode.calls k (impl_always.f) 51 #[] _ _ y532 t535 _ ?side1 ?side2 ?side3 A2.out).mono ?_); (case side1 => exact qC (Kd.R_reads' HO534.out).2.2); (case side2 => exact (Kd.R_reads' HO534.out).2.1); (case side3 => exact ⟨Go.Proofs.enters_of Tryz.func51 (by kernel_rfl) rfl, fun W_ hW_ r_ h_ => (impl_always.calls  r_ W_  h_).mono (fun e_ W2_ h2_ => ⟨h2_.1, by first | exact h2_.2 | exact h2_.2.below⟩)⟩); rintro e w13 ⟨rfl, hb⟩; refine ⟨_, rfl, ?_⟩; replace HO534 := Aside0.mk (Kd.R_below (qR HO534.out) hb); replace HB := Aside0.mk (below_step (qB HB.out) hb)))
  go_ret2
  exact ⟨_, qE, by first | exact Kd.R_nil _ _ _ _ _ | exact Kd.N_nil _ _ _ _ _ | exact Kd.V_nil _ _ _ _ _ | exact Kd.Q_nil _ _ _ _ _ | exact Kd.S_nil _ _ _ _ _, qB HB.out⟩

 rw [if_pos c3] at H
 obtain ⟨c3b0, c3b1⟩ := zT c3
 clear c3
 replace H := qN H
 obtain ⟨t536, A4, H⟩ := H
 try dsimp only at H
 simp only [Option.some.injEq, Prod.mk.injEq] at H
 obtain ⟨rfl, rfl⟩ := H
 go_enter Tryz.func20, Tryz.ntmps20
 go_wp2_with (first | ((with_reducible refine gate_dst (N := 6) rfl ?_); refine Kd.R_lit Kd.string _ 9 ?hg (N := 6) ?hd (xs := ([a0] : List ByteArray)) (inner := [.string a0]) (ok := fun _ => True) (okp := fun _ => True) ?hr ?hp (fun _ hk => hk) trivial (Below.refl _ _) (Nat.le_refl _) (by simp) ?_; (case hd => rfl); (case hg => rfl); (case hr => first | (go_simp; done) | (go_simp; rfl)); (case hp => exact (Reps.one (show Kd.M Kd.string _ _ _ a0 [.string a0] from rfl) (Reps.none _ _))); intro v533 w5 ho6 hb hg_ hnew_; clear hg_ hnew_; (first | rw [← Ny532.out] at ho6 | (simp only [Int.reduceToNat] at ho6; rw [← Ny532.out] at ho6)); have HO534 := Aside0.mk (Kd.R_lower ho6 (below_size (qB HB.out))); replace HB := Aside0.mk (below_step (qB HB.out) hb); clear hb ho6; obtain ⟨Ao7, co7, eo7⟩ := Kd.R_slice HO534.out; subst eo7) | ((with_reducible refine gate_callee (f := 35) rfl ?_); refine goesL_ (some 7) rfl rfl Tryz.func35 (by kernel_rfl) rfl #[.func (.func 51) #[] #[], .slice Ao7 y532.length co7] rfl qV ?_; (with_reducible refine (impl_wordCode.calls k (impl_always.f) 51 #[] _ _ y532 t535 _ ?side1 ?side2 ?side3 A2.out).mono ?_); (case side1 => exact qC (Kd.R_reads' HO534.out).2.2); (case side2 => exact (Kd.R_reads' HO534.out).2.1); (case side3 => exact ⟨Go.Proofs.enters_of Tryz.func51 (by kernel_rfl) rfl, fun W_ hW_ r_ h_ => (impl_always.calls  r_ W_  h_).mono (fun e_ W2_ h2_ => ⟨h2_.1, by first | exact h2_.2 | exact h2_.2.below⟩)⟩); rintro e w8 ⟨rfl, hb⟩; refine ⟨_, rfl, ?_⟩; replace HO534 := Aside0.mk (Kd.R_below (qR HO534.out) hb); replace HB := Aside0.mk (below_step (qB HB.out) hb)) | ((with_reducible refine gate_callee (f := 52) rfl ?_); refine goesL_ (some 12) rfl rfl Tryz.func52 (by kernel_rfl) rfl #[.string a0] rfl qV ?_; (with_reducible refine (impl_complexity.calls k a0 t536 _ A4.out).mono ?_); rintro e w9 ⟨v537, rfl, ho0, hb⟩; refine ⟨_, rfl, ?_⟩; replace HO534 := Aside0.mk (Kd.R_below (qR HO534.out) hb); have HO538 := Aside0.mk (Kd.R_lower ho0 (below_size (qB HB.out))); replace HB := Aside0.mk (below_step (qB HB.out) hb)))
 go_ret2
 exact ⟨_, qE, qR HO538.out, qB HB.out⟩
end Go.Proofs.YtgfnkdoennbipaaGreat.PF

namespace Go.Proofs.YtgfnkdoennbipaaGreat.PF
open Go.RowKit Go.Proofs.YtgfnkdoennbipaaGreatW.PrintWords Go.Proofs.YtgfnkdoennbipaaGreatW.PrintLast Go.Proofs.YtgfnkdoennbipaaGreatW.PrintMore
attribute [local go_sem] max2_int min2_int max_two min_two max_three min_three max_four min_four   -- for this text's walks alone
set_option linter.unusedVariables false
set_option linter.unusedSimpArgs false

/-! ### impl_CountFactors: function 22 -/
def impl_CountFactors.l0 : Nat → Int → List Int → Int → Int → Option (Int × Int)
 | 0, _, _, _, _ => none
 | k + 1, x5, x15, x16, x17 => if x17 < x16 then (if 0 ≤ x17 then (if x17 < (x15.length : Int) then (impl_CountFactors.l0 k (wrap64 (x5 + (rd x15 x17))) x15 x16 (wrap64 (x17 + 1))) else (none)) else (none)) else (some (x5, 0))
def impl_CountFactors.f (k : Nat) (a0 : ByteArray) : Option (Int × Int) := (impl_wordCode.f k (impl_always.f) (([a0] : List ByteArray))).bind fun t555 => (if t555 = 0 then ((impl_complexity.f k a0).bind fun t556 => (impl_CountFactors.l0 k 0 t556 (t556.length : Int) 0)) else (some (0, t555)))
theorem impl_CountFactors.mono_l : ∀ k, (∀ y0 y1 y2 y3, LeO (impl_CountFactors.l0 k y0 y1 y2 y3) (impl_CountFactors.l0 (k + 1) y0 y1 y2 y3))
 | 0 => fun _ _ _ _ r h => by simp [impl_CountFactors.l0] at h
 | k + 1 => by
  have ih0 := impl_CountFactors.mono_l k
  ·
   intro y0 y1 y2 y3
   unfold impl_CountFactors.l0
   repeat' first
   | (with_reducible exact ih0 _ _ _ _)
   | (with_reducible exact impl_complexity.mono _ _)
   | (with_reducible exact LeO.refl _)
   | (with_reducible exact LeO.none _)
   | (with_reducible refine LeO.ite ?_ ?_)
   | (with_reducible refine LeO.bind ?_ (fun _ => ?_))
   | refine impl_wordCode.monoP ?_
theorem impl_CountFactors.mono : ∀ a0 k, LeO (impl_CountFactors.f k a0) (impl_CountFactors.f (k + 1) a0) := by
 intro a0 k
 have ih0 := impl_CountFactors.mono_l k
 unfold impl_CountFactors.f
 repeat' first
   | (with_reducible exact ih0 _ _ _ _)
   | (with_reducible exact impl_complexity.mono _ _)
   | (with_reducible exact LeO.refl _)
   | (with_reducible exact LeO.none _)
   | (with_reducible refine LeO.ite ?_ ?_)
   | (with_reducible refine LeO.bind ?_ (fun _ => ?_))
   | refine impl_wordCode.monoP ?_
set_option maxHeartbeats 8000000 in
set_option maxRecDepth 100000 in
theorem impl_CountFactors.calls (k : Nat) (a0 : ByteArray) (r1 : Int) (r2 : Int) (w : World) (h : impl_CountFactors.f k a0 = some (r1, r2)) :
  Calls Tryz.prog 22 #[.string a0] w fun e w' => e = .returned (.tuple #[.int .i64 r1, .int .i64 r2]) ∧ Below w.heap.size w w' := by
 have HB := Aside0.mk (Below.refl w.heap.size w)
 have H : ((impl_wordCode.f k (impl_always.f) (([a0] : List ByteArray))).bind fun t555 => (if t555 = 0 then ((impl_complexity.f k a0).bind fun t556 => (impl_CountFactors.l0 k 0 t556 (t556.length : Int) 0)) else (some (0, t555)))) = some (r1, r2) := h
 clear h
 obtain ⟨y552, hy552⟩ : ∃ y_ : List ByteArray, y_ = (([a0] : List ByteArray)) := ⟨_, rfl⟩
 replace H : ((impl_wordCode.f k (impl_always.f) y552).bind fun t555 => (if t555 = 0 then ((impl_complexity.f k a0).bind fun t556 => (impl_CountFactors.l0 k 0 t556 (t556.length : Int) 0)) else (some (0, t555)))) = some (r1, r2) := by first | (rw [hy552]; with_reducible exact H) | (have H2_ := (Option.bind_some _ _).symm.trans H; rw [hy552]; with_reducible exact H2_) | (have H2_ := (Option.bind_some _ _).symm.trans H; with_reducible exact H2_) | with_reducible exact H | (rw [hy552]; exact H) | exact H
 have Ny552 := Aside0.mk hy552
 clear hy552
 replace H := qN H
 obtain ⟨t555, A2, H⟩ := H
 try dsimp only at H
 by_cases c3 : t555 = 0
 rotate_left
 ·
  rw [if_neg c3] at H
  obtain ⟨c3b0, c3b1⟩ := zF c3
  simp only [Option.some.injEq, Prod.mk.injEq] at H
  obtain ⟨rfl, rfl⟩ := H
  go_enter Tryz.func22, Tryz.ntmps22
  go_wp2_with (first | ((with_reducible refine gate_dst (N := 9) rfl ?_); refine Kd.R_lit Kd.string _ 9 ?hg (N := 9) ?hd (xs := ([a0] : List ByteArray)) (inner := [.string a0]) (ok := fun _ => True) (okp := fun _ => True) ?hr ?hp (fun _ hk => hk) trivial (Below.refl _ _) (Nat.le_refl _) (by simp) ?_; (case hd => rfl); (case hg => rfl); (case hr => first | (go_simp; done) | (go_simp; rfl)); (case hp => exact (Reps.one (show Kd.M Kd.string _ _ _ a0 [.string a0] from rfl) (Reps.none _ _))); intro v553 w14 ho15 hb hg_ hnew_; clear hg_ hnew_; (first | rw [← Ny552.out] at ho15 | (simp only [Int.reduceToNat] at ho15; rw [← Ny552.out] at ho15)); have HO554 := Aside0.mk (Kd.R_lower ho15 (below_size (qB HB.out))); replace HB := Aside0.mk (below_step (qB HB.out) hb); clear hb ho15; obtain ⟨Ao16, co16, eo16⟩ := Kd.R_slice HO554.out; subst eo16) | ((with_reducible refine gate_callee (f := 35) rfl ?_); refine goesL_ (some 10) rfl rfl Tryz.func35 (by kernel_rfl) rfl #[.func (.func 51) #[] #[], .slice Ao16 y552.length co16] rfl qV ?_; (with_reducible refine (impl_wordCode.calls k (impl_always.f) 51 #[] _ _ y552 t555 _ ?side1 ?side2 ?side3 A2.out).mono ?_); (case side1 => exact qC (Kd.R_reads' HO554.out).2.2); (case side2 => exact (Kd.R_reads' HO554.out).2.1); (case side3 => exact ⟨Go.Proofs.enters_of Tryz.func51 (by kernel_rfl) rfl, fun W_ hW_ r_ h_ => (impl_always.calls  r_ W_  h_).mono (fun e_ W2_ h2_ => ⟨h2_.1, by first | exact h2_.2 | exact h2_.2.below⟩)⟩); rintro e w17 ⟨rfl, hb⟩; refine ⟨_, rfl, ?_⟩; replace HO554 := Aside0.mk (Kd.R_below (qR HO554.out) hb); replace HB := Aside0.mk (below_step (qB HB.out) hb)))
  go_ret2
  exact ⟨qE, qB HB.out⟩

 rw [if_pos c3] at H
 obtain ⟨c3b0, c3b1⟩ := zT c3
 clear c3
 replace H := qN H
 obtain ⟨t556, A4, H⟩ := H
 try dsimp only at H
 have H' := Aside0.mk H
 clear H
 go_enter Tryz.func22, Tryz.ntmps22
 go_wp2_with (first | ((with_reducible refine gate_dst (N := 9) rfl ?_); refine Kd.R_lit Kd.string _ 9 ?hg (N := 9) ?hd (xs := ([a0] : List ByteArray)) (inner := [.string a0]) (ok := fun _ => True) (okp := fun _ => True) ?hr ?hp (fun _ hk => hk) trivial (Below.refl _ _) (Nat.le_refl _) (by simp) ?_; (case hd => rfl); (case hg => rfl); (case hr => first | (go_simp; done) | (go_simp; rfl)); (case hp => exact (Reps.one (show Kd.M Kd.string _ _ _ a0 [.string a0] from rfl) (Reps.none _ _))); intro v553 w5 ho6 hb hg_ hnew_; clear hg_ hnew_; (first | rw [← Ny552.out] at ho6 | (simp only [Int.reduceToNat] at ho6; rw [← Ny552.out] at ho6)); have HO554 := Aside0.mk (Kd.R_lower ho6 (below_size (qB HB.out))); replace HB := Aside0.mk (below_step (qB HB.out) hb); clear hb ho6; obtain ⟨Ao7, co7, eo7⟩ := Kd.R_slice HO554.out; subst eo7) | ((with_reducible refine gate_callee (f := 35) rfl ?_); refine goesL_ (some 10) rfl rfl Tryz.func35 (by kernel_rfl) rfl #[.func (.func 51) #[] #[], .slice Ao7 y552.length co7] rfl qV ?_; (with_reducible refine (impl_wordCode.calls k (impl_always.f) 51 #[] _ _ y552 t555 _ ?side1 ?side2 ?side3 A2.out).mono ?_); (case side1 => exact qC (Kd.R_reads' HO554.out).2.2); (case side2 => exact (Kd.R_reads' HO554.out).2.1); (case side3 => exact ⟨Go.Proofs.enters_of Tryz.func51 (by kernel_rfl) rfl, fun W_ hW_ r_ h_ => (impl_always.calls  r_ W_  h_).mono (fun e_ W2_ h2_ => ⟨h2_.1, by first | exact h2_.2 | exact h2_.2.below⟩)⟩); rintro e w8 ⟨rfl, hb⟩; refine ⟨_, rfl, ?_⟩; replace HO554 := Aside0.mk (Kd.R_below (qR HO554.out) hb); replace HB := Aside0.mk (below_step (qB HB.out) hb)) | ((with_reducible refine gate_callee (f := 52) rfl ?_); refine goesL_ (some 15) rfl rfl Tryz.func52 (by kernel_rfl) rfl #[.string a0] rfl qV ?_; (with_reducible refine (impl_complexity.calls k a0 t556 _ A4.out).mono ?_); rintro e w9 ⟨v557, rfl, ho0, hb⟩; refine ⟨_, rfl, ?_⟩; replace HO554 := Aside0.mk (Kd.R_below (qR HO554.out) hb); have HO558 := Aside0.mk (Kd.R_lower ho0 (below_size (qB HB.out))); replace HB := Aside0.mk (below_step (qB HB.out) hb); obtain ⟨Ao10, co10, eo10⟩ := Kd.R_slice HO558.out; subst eo10))
 go_loopg [5, 17] k (fun kq v5 v17 w' => ∃ (x5_1 : Int) (x17_1 : Int), v5 = .int .i64 x5_1 ∧ v17 = .int .i64 x17_1 ∧ Aside0 (impl_CountFactors.l0 kq x5_1 t556 (t556.length : Int) x17_1 = some (r1, r2)) ∧ Aside0 (kq ≤ k) ∧ Aside0 (Kd.R (Kd.int .i64) 2 w' w.heap.size (fun _ => True) (.slice Ao10 t556.length co10) t556) ∧ Aside0 (Below w.heap.size w w'))
 case atStart => exact ⟨(0), (0), qF, qF, H', ⟨Nat.le_refl _⟩, ⟨qR HO558.out⟩, ⟨qB HB.out⟩⟩
 case round =>
  clear H'
  obtain ⟨x5_1, x17_1, rfl, rfl, HA, HK1, HO_15, HB⟩ := hrel
  cases gk with
  | zero => exact absurd HA.out (by simp [impl_CountFactors.l0])
  | succ k1 =>
   have H := HA.out
   clear HA
   simp only [impl_CountFactors.l0] at H
   by_cases c11 : x17_1 < (t556.length : Int)
   rotate_left
   ·
    rw [if_neg c11] at H
    have c11b0 : decide (x17_1 < (t556.length : Int)) = false := decide_eq_false c11
    clear c11
    simp only [Option.some.injEq, Prod.mk.injEq] at H
    obtain ⟨rfl, rfl⟩ := H
    go_wp2
    go_ret2
    exact ⟨qE, qB HB.out⟩
   rw [if_pos c11] at H
   have c11b0 : decide (x17_1 < (t556.length : Int)) = true := decide_eq_true c11
   clear c11
   by_cases c12 : 0 ≤ x17_1
   rotate_left
   ·
    rw [if_neg c12] at H
    exact absurd H (by simp)
   rw [if_pos c12] at H
   have c12b0 : decide (0 ≤ x17_1) = true := decide_eq_true c12
   clear c12
   by_cases c13 : x17_1 < (t556.length : Int)
   rotate_left
   ·
    rw [if_neg c13] at H
    exact absurd H (by simp)
   rw [if_pos c13] at H
   have c13b0 : decide (x17_1 < (t556.length : Int)) = true := decide_eq_true c13
   clear c13
   have H' := Aside0.mk H
   clear H
   have p559 : 0 ≤ (x17_1 : Int) := of_decide_eq_true (by first | (with_reducible assumption) | assumption)
   have q559 : x17_1 < (t556.length : Int) := of_decide_eq_true (by first | (with_reducible assumption) | assumption)
   obtain ⟨ad559, e559, hx559_0⟩ := Kd.at_int (Kd.R_reads' HO_15.out).2.2 x17_1 p559 q559
   cases e559
   replace p559 := eq_true p559
   replace q559 := eq_true q559
   go_wp2
   go_roundg k1
   case measure => have := HK1.out; omega
   case rel => exact ⟨(wrap64 (x5_1 + (rd t556 x17_1))), (wrap64 (x17_1 + 1)), qF, qF, H', ⟨by have := HK1.out; omega⟩, ⟨qR HO_15.out⟩, ⟨qB HB.out⟩⟩
end Go.Proofs.YtgfnkdoennbipaaGreat.PF

namespace Go.Proofs.YtgfnkdoennbipaaGreat.PF
open Go.RowKit Go.Proofs.YtgfnkdoennbipaaGreatW.PrintWords Go.Proofs.YtgfnkdoennbipaaGreatW.PrintLast Go.Proofs.YtgfnkdoennbipaaGreatW.PrintMore
attribute [local go_sem] max2_int min2_int max_two min_two max_three min_three max_four min_four   -- for this text's walks alone
set_option linter.unusedVariables false
set_option linter.unusedSimpArgs false

/-! ### impl_HaveEqualFactors: function 27 -/
def impl_HaveEqualFactors.f (k : Nat) (a0 : ByteArray) (a1 : ByteArray) (a2 : Int) : Option (Bool × Int) := (impl_wordCode.f k (impl_HaveEqualFactors_1.f a2) (([a0, a1] : List ByteArray))).bind fun t628 => (if t628 = 0 then ((impl_factors.f k a0 a2).bind fun t629 => ((impl_factors.f k a1 a2).bind fun t632 => ((slices_Equal_string_string.f k t629 t632).bind fun t635 => (some (t635, 0))))) else (some (false, t628)))
theorem impl_HaveEqualFactors.mono : ∀ a0 a1 a2 k, LeO (impl_HaveEqualFactors.f k a0 a1 a2) (impl_HaveEqualFactors.f (k + 1) a0 a1 a2) := by
 intro a0 a1 a2 k
 unfold impl_HaveEqualFactors.f
 repeat' first
   | (with_reducible exact impl_factors.mono _ _ _)
   | (with_reducible exact slices_Equal_string_string.mono _ _ _)
   | (with_reducible exact LeO.refl _)
   | (with_reducible exact LeO.none _)
   | (with_reducible refine LeO.ite ?_ ?_)
   | (with_reducible refine LeO.bind ?_ (fun _ => ?_))
   | refine impl_wordCode.monoP ?_
def impl_HaveEqualFactors.T4 : Bool × List (List Nat × List Nat) := (true, [([], []), ([], []), ([0, 1], [0, 1]), ([], []), ([], []), ([3, 4, 2], [3, 4]), ([2, 5, 5], [2, 5]), ([6, 6, 0, 1, 2, 3, 4, 5, 6], [6]), ([7, 0, 1, 2, 3, 4, 5, 6, 7], [])])
def impl_HaveEqualFactors.B4 : List Nat := [0, 0, 3, 0, 0, 31, 63, 127, 255]
theorem impl_HaveEqualFactors.tab4 : rtab .any (opsOf Tryz.f27 4) = impl_HaveEqualFactors.T4 := by kernel_rfl
theorem impl_HaveEqualFactors.bits4 : waitsOk impl_HaveEqualFactors.T4.2 impl_HaveEqualFactors.B4 = true := by kernel_rfl
set_option maxHeartbeats 8000000 in
set_option maxRecDepth 100000 in
theorem impl_HaveEqualFactors.calls (k : Nat) (a0 : ByteArray) (a1 : ByteArray) (a2 : Int) (r1 : Bool) (r2 : Int) (w : World) (h : impl_HaveEqualFactors.f k a0 a1 a2 = some (r1, r2)) :
  Calls Tryz.prog 27 #[.string a0, .string a1, .int .i64 a2] w fun e w' => e = .returned (.tuple #[.bool r1, .int .i64 r2]) ∧ Below w.heap.size w w' := by
 have HB := Aside0.mk (Below.refl w.heap.size w)
 have H : ((impl_wordCode.f k (impl_HaveEqualFactors_1.f a2) (([a0, a1] : List ByteArray))).bind fun t628 => (if t628 = 0 then ((impl_factors.f k a0 a2).bind fun t629 => ((impl_factors.f k a1 a2).bind fun t632 => ((slices_Equal_string_string.f k t629 t632).bind fun t635 => (some (t635, 0))))) else (some (false, t628)))) = some (r1, r2) := h
 clear h
 obtain ⟨y625, hy625⟩ : ∃ y_ : List ByteArray, y_ = (([a0, a1] : List ByteArray)) := ⟨_, rfl⟩
 replace H : ((impl_wordCode.f k (impl_HaveEqualFactors_1.f a2) y625).bind fun t628 => (if t628 = 0 then ((impl_factors.f k a0 a2).bind fun t629 => ((impl_factors.f k a1 a2).bind fun t632 => ((slices_Equal_string_string.f k t629 t632).bind fun t635 => (some (t635, 0))))) else (some (false, t628)))) = some (r1, r2) := by first | (rw [hy625]; with_reducible exact H) | (have H2_ := (Option.bind_some _ _).symm.trans H; rw [hy625]; with_reducible exact H2_) | (have H2_ := (Option.bind_some _ _).symm.trans H; with_reducible exact H2_) | with_reducible exact H | (rw [hy625]; exact H) | exact H
 have Ny625 := Aside0.mk hy625
 clear hy625
 replace H := qN H
 obtain ⟨t628, A4, H⟩ := H
 try dsimp only at H
 by_cases c5 : t628 = 0
 rotate_left
 ·
  rw [if_neg c5] at H
  obtain ⟨c5b0, c5b1⟩ := zF c5
  simp only [Option.some.injEq, Prod.mk.injEq] at H
  obtain ⟨rfl, rfl⟩ := H
  go_enter Tryz.func27, Tryz.ntmps27
  go_wp2_with (first | ((with_reducible refine gate_dst (N := 5) rfl ?_); refine box_event ?hg (N := 5) ?hd (cs := #[.int .i64 a2]) (t := 2) ?hr ?_; (case hd => rfl); (case hg => rfl); (case hr => first | (go_simp; done) | (go_simp; rfl)); intro gb624 hg w19 hbox hb; have BK624 := Aside0.mk (hbox); have GW624 := Aside0.mk ((by rw [hg]; exact (below_size (qB HB.out)) : w.heap.size ≤ gb624)); have GE624 := Aside0.mk ((by rw [hg]; exact (below_size (qB HB.out)) : w.heap.size ≤ gb624)); replace HB := Aside0.mk (below_step (qB HB.out) hb); clear hb hbox hg) | ((with_reducible refine gate_dst (N := 12) rfl ?_); refine Kd.R_lit Kd.string _ 9 ?hg (N := 12) ?hd (xs := ([a0, a1] : List ByteArray)) (inner := [.string a0, .string a1]) (ok := fun _ => True) (okp := fun _ => True) ?hr ?hp (fun _ hk => hk) trivial (Below.refl _ _) (Nat.le_refl _) (by simp) ?_; (case hd => rfl); (case hg => rfl); (case hr => first | (go_simp; done) | (go_simp; rfl)); (case hp => exact (Reps.one (show Kd.M Kd.string _ _ _ a0 [.string a0] from rfl) (Reps.one (show Kd.M Kd.string _ _ _ a1 [.string a1] from rfl) (Reps.none _ _)))); intro v626 w20 ho21 hb hg_ hnew_; clear hg_ hnew_; (first | rw [← Ny625.out] at ho21 | (simp only [Int.reduceToNat] at ho21; rw [← Ny625.out] at ho21)); have HO627 := Aside0.mk (Kd.R_lower ho21 (below_size (qG HB.out))); replace BK624 := Aside0.mk (blk_below (g := gb624) (o := .cells #[.int .i64 a2] 2 (0, 0)) (qA BK624.out) hb); replace HB := Aside0.mk (below_step (qG HB.out) hb); clear hb ho21; obtain ⟨Ao22, co22, eo22⟩ := Kd.R_slice HO627.out; subst eo22) | ((with_reducible refine gate_callee (f := 35) rfl ?_); refine goesL_ (some 13) rfl rfl Tryz.func35 (by kernel_rfl) rfl #[.func (.func 61) #[] #[.pointer (some ⟨gb624, 0, none⟩)], .slice Ao22 y625.length co22] rfl qV ?_; (with_reducible refine (impl_wordCode.calls k (impl_HaveEqualFactors_1.f a2) 61 #[.pointer (some ⟨gb624, 0, none⟩)] _ _ y625 t628 _ ?side1 ?side2 ?side3 A4.out).mono ?_); (case side1 => exact qC (Kd.R_reads' HO627.out).2.2); (case side2 => exact (Kd.R_reads' HO627.out).2.1); (case side3 => exact ⟨Go.Proofs.enters_of Tryz.func61 (by kernel_rfl) rfl, fun W_ hW_ r_ h_ => (impl_HaveEqualFactors_1.calls gb624 a2 r_ W_ (blk_below (g := gb624) (o := .cells #[.int .i64 a2] 2 (0, 0)) (qA BK624.out) hW_) h_).mono (fun e_ W2_ h2_ => ⟨h2_.1, by first | exact h2_.2 | exact h2_.2.below⟩)⟩); rintro e w23 ⟨rfl, hb⟩; refine ⟨_, rfl, ?_⟩; replace HO627 := Aside0.mk (Kd.R_below (qR HO627.out) hb); replace BK624 := Aside0.mk (blk_below (g := gb624) (o := .cells #[.int .i64 a2] 2 (0, 0)) (qA BK624.out) hb); replace HB := Aside0.mk (below_step (qG HB.out) hb)))
  go_ret2
  exact ⟨qE, qG HB.out⟩

 rw [if_pos c5] at H
 obtain ⟨c5b0, c5b1⟩ := zT c5
 clear c5
 replace H := qN H
 obtain ⟨t629, A6, H⟩ := H
 try dsimp only at H
 replace H := qN H
 obtain ⟨t632, A7, H⟩ := H
 try dsimp only at H
 replace H := qN H
 obtain ⟨t635, A8, H⟩ := H
 try dsimp only at H
 simp only [Option.some.injEq, Prod.mk.injEq] at H
 obtain ⟨rfl, rfl⟩ := H
 go_enter Tryz.func27, Tryz.ntmps27
 try go_wp2_with (first | ((with_reducible refine gate_dst (N := 5) rfl ?_); refine box_event ?hg (N := 5) ?hd (cs := #[.int .i64 a2]) (t := 2) ?hr ?_; (case hd => rfl); (case hg => rfl); (case hr => first | (go_simp; done) | (go_simp; rfl)); intro gb624 hg w9 hbox hb; have BK624 := Aside0.mk (hbox); have GW624 := Aside0.mk ((by rw [hg]; exact (below_size (qB HB.out)) : w.heap.size ≤ gb624)); have GE624 := Aside0.mk ((by rw [hg]; exact (below_size (qB HB.out)) : w.heap.size ≤ gb624)); replace HB := Aside0.mk (below_step (qB HB.out) hb); clear hb hbox hg) | ((with_reducible refine gate_dst (N := 12) rfl ?_); refine Kd.R_lit Kd.string _ 9 ?hg (N := 12) ?hd (xs := ([a0, a1] : List ByteArray)) (inner := [.string a0, .string a1]) (ok := fun _ => True) (okp := fun _ => True) ?hr ?hp (fun _ hk => hk) trivial (Below.refl _ _) (Nat.le_refl _) (by simp) ?_; (case hd => rfl); (case hg => rfl); (case hr => first | (go_simp; done) | (go_simp; rfl)); (case hp => exact (Reps.one (show Kd.M Kd.string _ _ _ a0 [.string a0] from rfl) (Reps.one (show Kd.M Kd.string _ _ _ a1 [.string a1] from rfl) (Reps.none _ _)))); intro v626 w10 ho11 hb hg_ hnew_; clear hg_ hnew_; (first | rw [← Ny625.out] at ho11 | (simp only [Int.reduceToNat] at ho11; rw [← Ny625.out] at ho11)); have HO627 := Aside0.mk (Kd.R_lower ho11 (below_size (qG HB.out))); replace BK624 := Aside0.mk (blk_below (g := gb624) (o := .cells #[.int .i64 a2] 2 (0, 0)) (qA BK624.out) hb); replace HB := Aside0.mk (below_step (qG HB.out) hb); clear hb ho11; obtain ⟨Ao12, co12, eo12⟩ := Kd.R_slice HO627.out; subst eo12) | ((with_reducible refine gate_callee (f := 35) rfl ?_); refine goesL_ (some 13) rfl rfl Tryz.func35 (by kernel_rfl) rfl #[.func (.func 61) #[] #[.pointer (some ⟨gb624, 0, none⟩)], .slice Ao12 y625.length co12] rfl qV ?_; (with_reducible refine (impl_wordCode.calls k (impl_HaveEqualFactors_1.f a2) 61 #[.pointer (some ⟨gb624, 0, none⟩)] _ _ y625 t628 _ ?side1 ?side2 ?side3 A4.out).mono ?_); (case side1 => exact qC (Kd.R_reads' HO627.out).2.2); (case side2 => exact (Kd.R_reads' HO627.out).2.1); (case side3 => exact ⟨Go.Proofs.enters_of Tryz.func61 (by kernel_rfl) rfl, fun W_ hW_ r_ h_ => (impl_HaveEqualFactors_1.calls gb624 a2 r_ W_ (blk_below (g := gb624) (o := .cells #[.int .i64 a2] 2 (0, 0)) (qA BK624.out) hW_) h_).mono (fun e_ W2_ h2_ => ⟨h2_.1, by first | exact h2_.2 | exact h2_.2.below⟩)⟩); rintro e w13 ⟨rfl, hb⟩; refine ⟨_, rfl, ?_⟩; replace HO627 := Aside0.mk (Kd.R_below (qR HO627.out) hb); replace BK624 := Aside0.mk (blk_below (g := gb624) (o := .cells #[.int .i64 a2] 2 (0, 0)) (qA BK624.out) hb); replace HB := Aside0.mk (below_step (qG HB.out) hb)))
 have n0_ := Aside0.mk (Kd.R_drew HO627.out)
 have n1_ := Aside0.mk (blk_drew BK624.out)
 have n2_ := Aside0.mk (below_drew1 HB.out)
 clear HO627
 clear BK624
 clear HB
 have HO627 := n0_
 have BK624 := n1_
 have HB := n2_
 clear n0_ n1_ n2_
 refine start_ (n := 9) (S := fun w' => w'.cell? ⟨gb624, 0, none⟩ = some (.int .i64 a2)) (ds := []) #[false, false, false, false, false, false, false, false, false] (by kernel_rfl) rfl rfl ((blk_cell BK624.out 0).trans rfl) (fun hHeld => ?_); refine with_tabW impl_HaveEqualFactors.tab4 impl_HaveEqualFactors.bits4 (fun HT_ HW_ => ?_)
 generalize w13.drew = w14 at HO627 BK624 HB hHeld ⊢
 refine pure_ (i := 0) (N := some 17) (v := ?_) (a' := ?_) #[true, false, false, false, false, false, false, false, false] rfl rfl (any_of HT_.out (by kernel_rfl)) (fun _ _ _ h => h) (Or.inl ⟨by rfl, ?_⟩) ?_ ?_
 rotate_left
 ·
  intro w'
  go_simp
  with_reducible rfl
 rotate_left
 ·
  simp only [Act.put, List.setIfInBounds_toArray, List.set_cons_zero, List.set_cons_succ, i64_w, i32_w]
  rfl
 refine pure_ (i := 3) (N := some 20) (v := ?_) (a' := ?_) #[true, false, false, true, false, false, false, false, false] rfl rfl (any_of HT_.out (by kernel_rfl)) (fun _ _ _ h => h) (Or.inl ⟨by rfl, ?_⟩) ?_ ?_
 rotate_left
 ·
  intro w'
  go_simp
  with_reducible rfl
 rotate_left
 ·
  simp only [Act.put, List.setIfInBounds_toArray, List.set_cons_zero, List.set_cons_succ, i64_w, i32_w]
  rfl
 refine take_ (i := 1) (N := some 18) (v := ?_) (a' := ?_) #[true, true, false, true, false, false, false, false, false] rfl rfl (take_ofW HT_.out HW_.out (by kernel_rfl)) (fun _ _ _ h => h) (Or.inl ⟨by rfl, ?_⟩) hHeld ?_ ?_
 rotate_left
 ·
  intro w' s0
  go_simp
  with_reducible rfl
 rotate_left
 ·
  simp only [Act.put, List.setIfInBounds_toArray, List.set_cons_zero, List.set_cons_succ, i64_w, i32_w]
  rfl
 refine take_ (i := 4) (N := some 21) (v := ?_) (a' := ?_) #[true, true, false, true, true, false, false, false, false] rfl rfl (take_ofW HT_.out HW_.out (by kernel_rfl)) (fun _ _ _ h => h) (Or.inl ⟨by rfl, ?_⟩) hHeld ?_ ?_
 rotate_left
 ·
  intro w' s0
  go_simp
  with_reducible rfl
 rotate_left
 ·
  simp only [Act.put, List.setIfInBounds_toArray, List.set_cons_zero, List.set_cons_succ, i64_w, i32_w]
  rfl
 refine one_ (i := 2) (N := some 19) #[true, true, true, true, true, false, false, false, false] rfl rfl (one_of HT_.out (by kernel_rfl)) (by decide) (fun K hK => ?_)
 refine goes_ Tryz.func43 (by kernel_rfl) rfl #[.string a0, .int .i64 a2] (by rfl) rfl rfl qV ?_
 with_reducible refine (impl_factors.calls k a0 a2 t629 _ A6.out).mono ?_
 rintro e w15 ⟨v630, rfl, ho0, hb⟩
 refine ⟨_, rfl, ?_⟩
 have n0_ := Aside0.mk (Kd.R_elder' (qR HO627.out) (Kd.R_base ho0) hb)
 have n1_ := Aside0.mk (Kd.R_lower (Kd.R_new' ho0 (Kd.R_lt (qR HO627.out))) (below_size (qG HB.out)))
 have n2_ := Aside0.mk (blk_below (g := gb624) (o := .cells #[.int .i64 a2] 2 (0, 0)) (qA BK624.out) hb)
 have n3_ := Aside0.mk (below_step (qG HB.out) hb)
 clear HO627
 clear BK624
 clear HB
 have HO627 := n0_
 have HO631 := n1_
 have BK624 := n2_
 have HB := n3_
 clear n0_ n1_ n2_ n3_
 (try clear hb)
 (try clear hb2)
 (try clear hk)
 (try clear hi)
 (try clear ho0)
 refine hK.out _ _ ((blk_cell BK624.out 0).trans rfl) (fun hHeld => ?_)
 clear hK K
 refine norm_ (a' := ?_) ?_ ?_
 rotate_left
 ·
  show Act.put _ (some 19) _ = _
  simp only [Act.put, List.setIfInBounds_toArray, List.set_cons_zero, List.set_cons_succ, i64_w, i32_w]
  rfl
 refine one_ (i := 5) (N := some 22) #[true, true, true, true, true, true, false, false, false] rfl rfl (one_of HT_.out (by kernel_rfl)) (by decide) (fun K hK => ?_)
 refine goes_ Tryz.func43 (by kernel_rfl) rfl #[.string a1, .int .i64 a2] (by rfl) rfl rfl qV ?_
 with_reducible refine (impl_factors.calls k a1 a2 t632 _ A7.out).mono ?_
 rintro e w16 ⟨v633, rfl, ho0, hb⟩
 refine ⟨_, rfl, ?_⟩
 have n0_ := Aside0.mk (Kd.R_elder' (qR HO627.out) (Kd.R_base ho0) hb)
 have n1_ := Aside0.mk (Kd.R_elder' (qR HO631.out) (Kd.R_base ho0) hb)
 have n2_ := Aside0.mk (Kd.R_lower (Kd.R_new' (Kd.R_new' ho0 (Kd.R_lt (qR HO627.out))) (Kd.R_lt (qR HO631.out))) (below_size (qG HB.out)))
 have n3_ := Aside0.mk (blk_below (g := gb624) (o := .cells #[.int .i64 a2] 2 (0, 0)) (qA BK624.out) hb)
 have n4_ := Aside0.mk (below_step (qG HB.out) hb)
 clear HO627
 clear HO631
 clear BK624
 clear HB
 have HO627 := n0_
 have HO631 := n1_
 have HO634 := n2_
 have BK624 := n3_
 have HB := n4_
 clear n0_ n1_ n2_ n3_ n4_
 (try clear hb)
 (try clear hb2)
 (try clear hk)
 (try clear hi)
 (try clear ho0)
 obtain ⟨Ao17, co17, eo17⟩ := Kd.R_slice HO631.out
 (first | subst eo17 | (injection eo17 with f1_ f2_ f3_; have f4_ := f1_.symm; have f5_ := f3_.symm; clear f1_ f2_ f3_; subst f4_; subst f5_))
 obtain ⟨Ao18, co18, eo18⟩ := Kd.R_slice HO634.out
 (first | subst eo18 | (injection eo18 with f1_ f2_ f3_; have f4_ := f1_.symm; have f5_ := f3_.symm; clear f1_ f2_ f3_; subst f4_; subst f5_))
 refine hK.out _ _ ((blk_cell BK624.out 0).trans rfl) (fun hHeld => ?_)
 clear hK K
 refine norm_ (a' := ?_) ?_ ?_
 rotate_left
 ·
  show Act.put _ (some 22) _ = _
  simp only [Act.put, List.setIfInBounds_toArray, List.set_cons_zero, List.set_cons_succ, i64_w, i32_w]
  rfl
 refine one_ (i := 6) (N := some 23) #[true, true, true, true, true, true, true, false, false] rfl rfl (one_of HT_.out (by kernel_rfl)) (by decide) (fun K hK => ?_)
 refine goes_ Tryz.func62 (by kernel_rfl) rfl #[.slice Ao17 t629.length co17, .slice Ao18 t632.length co18] (by rfl) rfl rfl qV ?_
 with_reducible refine (slices_Equal_string_string.calls k _ _ t629 _ _ t632 t635 _ ?side1 ?side2 ?side3 ?side4 A8.out).mono ?_
 (case side1 => exact qC (Kd.R_reads' HO631.out).2.2)
 (case side2 => exact (Kd.R_reads' HO631.out).2.1)
 (case side3 => exact qC (Kd.R_reads' HO634.out).2.2)
 (case side4 => exact (Kd.R_reads' HO634.out).2.1)
 rintro e w' ⟨rfl, ⟨nd, rfl⟩⟩
 refine ⟨_, rfl, ?_⟩
 refine hK.out _ _ ((blk_cell BK624.out 0).trans rfl) (fun hHeld => ?_)
 clear hK K
 refine norm_ (a' := ?_) ?_ ?_
 rotate_left
 ·
  show Act.put _ (some 23) _ = _
  simp only [Act.put, List.setIfInBounds_toArray, List.set_cons_zero, List.set_cons_succ, i64_w, i32_w]
  rfl
 refine pure_ (i := 7) (N := some 6) (v := ?_) (a' := ?_) #[true, true, true, true, true, true, true, true, false] rfl rfl (any_of HT_.out (by kernel_rfl)) (fun _ _ _ h => h) (Or.inl ⟨by rfl, ?_⟩) ?_ ?_
 rotate_left
 ·
  intro w'
  go_simp
  with_reducible rfl
 rotate_left
 ·
  simp only [Act.put, List.setIfInBounds_toArray, List.set_cons_zero, List.set_cons_succ, i64_w, i32_w]
  rfl
 refine pure_ (i := 8) (N := some 7) (v := ?_) (a' := ?_) #[true, true, true, true, true, true, true, true, true] rfl rfl (any_of HT_.out (by kernel_rfl)) (fun _ _ _ h => h) (Or.inl ⟨by rfl, ?_⟩) ?_ ?_
 rotate_left
 ·
  intro w'
  go_simp
  with_reducible rfl
 rotate_left
 ·
  simp only [Act.put, List.setIfInBounds_toArray, List.set_cons_zero, List.set_cons_succ, i64_w, i32_w]
  rfl
 refine done_ (done_of HT_.out (by kernel_rfl)) ?_
 try go_wp2
 go_ret2
 exact ⟨qE, qG HB.out⟩
end Go.Proofs.YtgfnkdoennbipaaGreat.PF
