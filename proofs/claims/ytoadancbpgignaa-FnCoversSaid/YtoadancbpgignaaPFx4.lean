-- an own text, written by a program of this place (wip/tools)
import Derived.Test.YtoadancbpgignaaPFx0
import Derived.Test.YtoadancbpgignaaPFx2
import Derived.Test.YtoadancbpgignaaPFGivE
import Derived.Test.YtoadancbpgignaaPFx1
import Derived.Test.YtoadancbpgignaaPFGivA
namespace Go.Proofs.Ytoadancbpgignaa.PF
open Go.RowKit Go.Proofs.YtoadancbpgignaaW.PrintWords Go.Proofs.YtoadancbpgignaaW.PrintLast Go.Proofs.YtoadancbpgignaaW.PrintMore
attribute [local go_sem] max2_int min2_int max_two min_two max_three min_three max_four min_four   -- for this text's walks alone
set_option linter.unusedVariables false
set_option linter.unusedSimpArgs false

/-! ### impl_isCovered: function 35 -/
def impl_isCovered.f (k : Nat) (a0 : ByteArray) (l1 : List ByteArray) : Option (Bool) := (impl_covered.f k a0 l1).bind fun t337 => ((slices_Contains_bool_bool.f k t337 false).bind fun t340 => (some (!t340)))
theorem impl_isCovered.mono : ∀ a0 a1 k, LeO (impl_isCovered.f k a0 a1) (impl_isCovered.f (k + 1) a0 a1) := by
 intro a0 a1 k
 unfold impl_isCovered.f
 repeat' first
   | (with_reducible exact impl_covered.mono _ _ _)
   | (with_reducible exact slices_Contains_bool_bool.mono _ _ _)
   | (with_reducible exact LeO.refl _)
   | (with_reducible exact LeO.none _)
   | (with_reducible refine LeO.ite ?_ ?_)
   | (with_reducible refine LeO.bind ?_ (fun _ => ?_))
set_option maxHeartbeats 8000000 in
set_option maxRecDepth 100000 in
theorem impl_isCovered.calls (k : Nat) (a0 : ByteArray) (A1 : Option Addr) (c1 : Nat) (l1 : List ByteArray) (r : Bool) (w : World) (hr1 : Kd.C Kd.string w A1 l1.length l1) (hc1 : l1.length ≤ c1) (h : impl_isCovered.f k a0 l1 = some r) :
  Calls Try.prog 35 #[.string a0, .slice A1 l1.length c1] w fun e w' => e = .returned (.bool r) ∧ Below w.heap.size w w' := by
 have HR1 := Aside0.mk hr1
 have HC1 := Aside0.mk hc1
 clear hr1 hc1
 have HB := Aside0.mk (Below.refl w.heap.size w)
 have H : ((impl_covered.f k a0 l1).bind fun t337 => ((slices_Contains_bool_bool.f k t337 false).bind fun t340 => (some (!t340)))) = some r := h
 clear h
 replace H := Option.bind_eq_some_iff.mp H
 obtain ⟨t337, A30, H⟩ := H
 replace H : ((slices_Contains_bool_bool.f k t337 false).bind fun t340 => (some (!t340))) = some r := H
 have A3 := Aside0.mk A30
 clear A30
 replace H := Option.bind_eq_some_iff.mp H
 obtain ⟨t340, A40, H⟩ := H
 replace H : (some (!t340)) = some r := H
 have A4 := Aside0.mk A40
 clear A40
 obtain rfl := Option.some.inj H
 go_enter Try.func35, Try.ntmps35
 go_wp2_with (first | ((with_reducible refine gate_callee (f := 36) rfl ?_); refine goesL_ (some 7) rfl rfl Try.func36 (by kernel_rfl) rfl #[.string a0, .slice A1 l1.length c1] rfl qV ?_; (with_reducible refine (impl_covered.calls k a0 _ _ l1 t337 _ ?side1 ?side2 A3.out).mono ?_); (case side1 => exact qC HR1.out); (case side2 => exact HC1.out); rintro e w5 ⟨v338, rfl, ho0, hb⟩; refine ⟨_, rfl, ?_⟩; have n0_ := Aside0.mk (Kd.R_lower ho0 (below_size (qB HB.out))); have n1_ := Aside0.mk (below_step (qB HB.out) hb); clear HB; have HO339 := n0_; have HB := n1_; clear n0_ n1_; obtain ⟨Ao6, co6, eo6⟩ := Kd.R_slice HO339.out; subst eo6) | ((with_reducible refine gate_callee (f := 60) rfl ?_); refine goesL_ (some 8) rfl rfl Try.func60 (by kernel_rfl) rfl #[.slice Ao6 t337.length co6, .bool false] rfl qV ?_; (with_reducible refine (slices_Contains_bool_bool.calls k _ _ t337 false t340 _ ?side1 ?side2 A4.out).mono ?_); (case side1 => exact qC (Kd.R_reads' HO339.out).2.2); (case side2 => exact (Kd.R_reads' HO339.out).2.1); rintro e w' ⟨rfl, ⟨nd, rfl⟩⟩; refine ⟨_, rfl, ?_⟩))
 go_ret
 exact ⟨qE, qB HB.out⟩

end Go.Proofs.Ytoadancbpgignaa.PF

namespace Go.Proofs.Ytoadancbpgignaa.PF
open Go.RowKit Go.Proofs.YtoadancbpgignaaW.PrintWords Go.Proofs.YtoadancbpgignaaW.PrintLast Go.Proofs.YtoadancbpgignaaW.PrintMore
attribute [local go_sem] max2_int min2_int max_two min_two max_three min_three max_four min_four   -- for this text's walks alone
set_option linter.unusedVariables false
set_option linter.unusedSimpArgs false

/-! ### impl_covers: function 30 -/
def impl_covers.l0 : Nat → ByteArray → List ByteArray → Int → Option (List ByteArray)
 | 0, _, _, _ => none
 | k + 1, x0, x3, x4 => if x4 ≤ (x0.size : Int) then (if 0 ≤ x4 then ((impl_isCovered.f k x0 (([x0.extract 0 (x4 : Int).toNat] : List ByteArray))).bind fun t344 => (if t344 = true then (if x3.length < 8796093022208 then (impl_covers.l0 k x0 (x3 ++ [x0.extract 0 (x4 : Int).toNat]) (wrap64 (x4 + 1))) else (none)) else (impl_covers.l0 k x0 x3 (wrap64 (x4 + 1))))) else (none)) else (some x3)
def impl_covers.f (k : Nat) (a0 : ByteArray) : Option (List ByteArray) := impl_covers.l0 k a0 ([] : List ByteArray) 1
theorem impl_covers.mono_l : ∀ k, (∀ y0 y1 y2, LeO (impl_covers.l0 k y0 y1 y2) (impl_covers.l0 (k + 1) y0 y1 y2))
 | 0 => fun _ _ _ r h => by simp [impl_covers.l0] at h
 | k + 1 => by
  have ih0 := impl_covers.mono_l k
  ·
   intro y0 y1 y2
   unfold impl_covers.l0
   repeat' first
   | (with_reducible exact ih0 _ _ _)
   | (with_reducible exact impl_isCovered.mono _ _ _)
   | (with_reducible exact LeO.refl _)
   | (with_reducible exact LeO.none _)
   | (with_reducible refine LeO.ite ?_ ?_)
   | (with_reducible refine LeO.bind ?_ (fun _ => ?_))
theorem impl_covers.mono : ∀ a0 k, LeO (impl_covers.f k a0) (impl_covers.f (k + 1) a0) := by
 intro a0 k
 have ih0 := impl_covers.mono_l k
 unfold impl_covers.f
 repeat' first
   | (with_reducible exact ih0 _ _ _)
   | (with_reducible exact impl_isCovered.mono _ _ _)
   | (with_reducible exact LeO.refl _)
   | (with_reducible exact LeO.none _)
   | (with_reducible refine LeO.ite ?_ ?_)
   | (with_reducible refine LeO.bind ?_ (fun _ => ?_))
set_option maxHeartbeats 8000000 in
set_option maxRecDepth 100000 in
theorem impl_covers.calls (k : Nat) (a0 : ByteArray) (r : List ByteArray) (w : World) (h : impl_covers.f k a0 = some r) :
  Calls Try.prog 30 #[.string a0] w fun e w' => ∃ v0_ : Value, e = .returned (v0_) ∧ Kd.R Kd.string 9 w' w.heap.size (fun _ => True) v0_ r ∧ Below w.heap.size w w' := by
 have HB := Aside0.mk (Below.refl w.heap.size w)
 have H : (impl_covers.l0 k a0 ([] : List ByteArray) 1) = some r := h
 clear h
 have H' := Aside0.mk H
 clear H
 go_enter Try.func30, Try.ntmps30
 go_wp2
 go_loopg [3, 4] k (fun kq v3 v4 w' => ∃ (x3_1 : List ByteArray) (x4_1 : Int), v4 = .int .i64 x4_1 ∧ Aside0 (impl_covers.l0 kq a0 x3_1 x4_1 = some r) ∧ Aside0 (kq ≤ k) ∧ Aside0 (Kd.R Kd.string 9 w' w.heap.size (fun _ => True) v3 x3_1) ∧ Aside0 (Below w.heap.size w w'))
 case atStart => exact ⟨(([] : List ByteArray)), (1), qF, H', ⟨Nat.le_refl _⟩, ⟨by first | exact Kd.R_nil _ _ _ _ _ | exact Kd.N_nil _ _ _ _ _ | exact Kd.V_nil _ _ _ _ _ | exact Kd.Q_nil _ _ _ _ _ | exact Kd.S_nil _ _ _ _ _⟩, ⟨qB HB.out⟩⟩
 case round =>
  clear H'
  obtain ⟨x3_1, x4_1, rfl, HA, HK1, HO_3, HB⟩ := hrel
  cases gk with
  | zero => exact absurd HA.out (by simp [impl_covers.l0])
  | succ k1 =>
   have H := HA.out
   clear HA
   simp only [impl_covers.l0] at H
   by_cases c2 : x4_1 ≤ (a0.size : Int)
   ·
    rw [if_pos c2] at H
    have c2b0 : decide (x4_1 ≤ (a0.size : Int)) = true := decide_eq_true c2
    clear c2
    by_cases c3 : 0 ≤ x4_1
    ·
     rw [if_pos c3] at H
     have c3b0 := eq_true c3
     have c3b1 : decide (0 ≤ x4_1) = true := decide_eq_true c3
     clear c3
     have c4b0 := eq_true (of_decide_eq_true (by first | (with_reducible assumption) | assumption) : x4_1 ≤ (a0.size : Int))
     obtain ⟨y341, hy341⟩ : ∃ y_ : List ByteArray, y_ = (([a0.extract 0 (x4_1 : Int).toNat] : List ByteArray)) := ⟨_, rfl⟩
     replace H : ((impl_isCovered.f k1 a0 y341).bind fun t344 => (if t344 = true then (if x3_1.length < 8796093022208 then (impl_covers.l0 k1 a0 (x3_1 ++ [a0.extract 0 (x4_1 : Int).toNat]) (wrap64 (x4_1 + 1))) else (none)) else (impl_covers.l0 k1 a0 x3_1 (wrap64 (x4_1 + 1))))) = some r := by first | (rw [hy341]; with_reducible exact H) | (have H2_ := (Option.bind_some _ _).symm.trans H; rw [hy341]; with_reducible exact H2_) | (have H2_ := (Option.bind_some _ _).symm.trans H; with_reducible exact H2_) | with_reducible exact H | (rw [hy341]; exact H) | exact H
     have Ny341 := Aside0.mk hy341
     clear hy341
     replace H := Option.bind_eq_some_iff.mp H
     obtain ⟨t344, A50, H⟩ := H
     replace H : (if t344 = true then (if x3_1.length < 8796093022208 then (impl_covers.l0 k1 a0 (x3_1 ++ [a0.extract 0 (x4_1 : Int).toNat]) (wrap64 (x4_1 + 1))) else (none)) else (impl_covers.l0 k1 a0 x3_1 (wrap64 (x4_1 + 1)))) = some r := H
     have A5 := Aside0.mk A50
     clear A50
     by_cases c6 : t344 = true
     ·
      subst c6
      have H1 : (if x3_1.length < 8796093022208 then (impl_covers.l0 k1 a0 (x3_1 ++ [a0.extract 0 (x4_1 : Int).toNat]) (wrap64 (x4_1 + 1))) else (none)) = some r := by rw [if_pos rfl] at H; exact H
      clear H
      have H := H1
      clear H1
      have c7b0 := eq_true (of_decide_eq_true (by first | (with_reducible assumption) | assumption) : 0 ≤ x4_1)
      have c8b0 := eq_true (of_decide_eq_true (by first | (with_reducible assumption) | assumption) : x4_1 ≤ (a0.size : Int))
      by_cases c9 : x3_1.length < 8796093022208
      ·
       rw [if_pos c9] at H
       have LMc9 := Aside0.mk c9
       clear c9
       obtain ⟨y345, hy345⟩ : ∃ y_ : List ByteArray, y_ = (x3_1 ++ [a0.extract 0 (x4_1 : Int).toNat]) := ⟨_, rfl⟩
       replace H : (impl_covers.l0 k1 a0 y345 (wrap64 (x4_1 + 1))) = some r := by first | (rw [hy345]; with_reducible exact H) | (have H2_ := (Option.bind_some _ _).symm.trans H; rw [hy345]; with_reducible exact H2_) | (have H2_ := (Option.bind_some _ _).symm.trans H; with_reducible exact H2_) | with_reducible exact H | (rw [hy345]; exact H) | exact H
       have Ny345 := Aside0.mk hy345
       clear hy345
       have H' := Aside0.mk H
       clear H
       go_wp2_with (first | ((with_reducible refine gate_dst (N := 15) rfl ?_); refine Kd.R_lit Kd.string _ 9 ?hg (N := 15) ?hd (xs := ([a0.extract 0 (x4_1 : Int).toNat] : List ByteArray)) (inner := [.string (a0.extract 0 (x4_1 : Int).toNat)]) (ok := fun _ => True) (okp := fun _ => True) ?hr ?hp (fun _ hk => hk) trivial (Below.refl _ _) (Nat.le_refl _) (by simp) ?_; (case hd => rfl); (case hg => rfl); (case hr => first | (go_simp; done) | (go_simp; rfl)); (case hp => exact (Reps.one (show Kd.M Kd.string _ _ _ (a0.extract 0 (x4_1 : Int).toNat) [.string (a0.extract 0 (x4_1 : Int).toNat)] from rfl) (Reps.none _ _))); intro v342 w10 ho11 hb hg_ hnew_; clear hg_ hnew_; (first | rw [← Ny341.out] at ho11 | (simp only [Int.reduceToNat] at ho11; rw [← Ny341.out] at ho11)); have n0_ := Aside0.mk (Kd.R_elder' (qR HO_3.out) (Kd.R_base ho11) hb); have n1_ := Aside0.mk (Kd.R_lower (Kd.R_new' ho11 (Kd.R_lt (qR HO_3.out))) (below_size (qB HB.out))); have n2_ := Aside0.mk (below_step (qB HB.out) hb); clear HO_3; clear HB; have HO_3 := n0_; have HO343 := n1_; have HB := n2_; clear n0_ n1_ n2_; clear hb ho11; obtain ⟨Ao12, co12, eo12⟩ := Kd.R_slice HO343.out; subst eo12) | ((with_reducible refine gate_callee (f := 35) rfl ?_); refine goesL_ (some 16) rfl rfl Try.func35 (by kernel_rfl) rfl #[.string a0, .slice Ao12 y341.length co12] rfl qV ?_; (with_reducible refine (impl_isCovered.calls k1 a0 _ _ y341 true _ ?side1 ?side2 A5.out).mono ?_); (case side1 => exact qC (Kd.R_reads' HO343.out).2.2); (case side2 => exact (Kd.R_reads' HO343.out).2.1); rintro e w13 ⟨rfl, hb⟩; refine ⟨_, rfl, ?_⟩; have n0_ := Aside0.mk (Kd.R_below (qR HO_3.out) hb); have n1_ := Aside0.mk (Kd.R_below (qR HO343.out) hb); have n2_ := Aside0.mk (below_step (qB HB.out) hb); clear HO_3; clear HO343; clear HB; have HO_3 := n0_; have HO343 := n1_; have HB := n2_; clear n0_ n1_ n2_) | ((with_reducible refine gate_builtin (b := .append) (xs := #[.tmp 17, .tmp 21]) rfl ?_); at_builtin; refine Kd.R_append Kd.string (w0 := w) w.heap.size rfl (.tmp 17) (.tmp 21) 25 9 (.string ⟨#[]⟩) 16 rfl Try.underlying25 info9 rfl (by decide) (by omega) u3 x3_1 (a0.extract 0 (x4_1 : Int).toNat) [.string (a0.extract 0 (x4_1 : Int).toNat)] (fun k_ => some k_ ≠ (.slice Ao12 y341.length co12 : Value).ownBlock) (fun _ => False) rfl rfl ?aP (fun _ hk => hk.elim) ?aF ?aO ?aB ?aS ?aL ?_; (case aP => exact rfl); (case aB => exact (qB HB.out)); (case aF => exact (fun k_ hk => Kd.fresh' (Kd.R_lt (qR HO343.out)) k_ hk)); (case aO => exact (by (with_reducible repeat (first | apply Kd.R_alloc | apply Kd.R_drewN | apply Kd.R_drew)); exact Kd.R_mono HO_3.out (fun _ hk => hk.2))); (case aS => exact (below_size (qB HB.out))); (case aL => have := LMc9.out; omega); intro v346 w14 ho hb hg hat; rw [← Ny345.out] at ho; have n0_ := Aside0.mk (Kd.R_after (ok := (fun _ => True)) (qR HO343.out) hg hat); have n1_ := Aside0.mk (hb); have n2_ := Aside0.mk (ho); clear HO343; clear HB; clear HO_3; have HO343 := n0_; have HB := n1_; have HO347 := n2_; clear n0_ n1_ n2_; clear ho hb hg hat))
       go_roundg k1
       case measure => have := HK1.out; omega
       case rel => exact ⟨(y345), (wrap64 (x4_1 + 1)), qF, H', ⟨by have := HK1.out; omega⟩, ⟨by (with_reducible repeat (first | apply Kd.R_alloc | apply Kd.R_drewN | apply Kd.R_drew)); exact Kd.R_mono HO347.out (fun _ hk => trivial)⟩, ⟨qB HB.out⟩⟩
      ·
       rw [if_neg c9] at H
       exact absurd H (by simp)
     ·
      replace c6 := Bool.eq_false_iff.mpr c6
      subst c6
      have H1 : (impl_covers.l0 k1 a0 x3_1 (wrap64 (x4_1 + 1))) = some r := by rw [if_neg (show ¬ (false = true) by decide)] at H; exact H
      clear H
      have H := H1
      clear H1
      have H' := Aside0.mk H
      clear H
      go_wp2_with (first | ((with_reducible refine gate_dst (N := 15) rfl ?_); refine Kd.R_lit Kd.string _ 9 ?hg (N := 15) ?hd (xs := ([a0.extract 0 (x4_1 : Int).toNat] : List ByteArray)) (inner := [.string (a0.extract 0 (x4_1 : Int).toNat)]) (ok := fun _ => True) (okp := fun _ => True) ?hr ?hp (fun _ hk => hk) trivial (Below.refl _ _) (Nat.le_refl _) (by simp) ?_; (case hd => rfl); (case hg => rfl); (case hr => first | (go_simp; done) | (go_simp; rfl)); (case hp => exact (Reps.one (show Kd.M Kd.string _ _ _ (a0.extract 0 (x4_1 : Int).toNat) [.string (a0.extract 0 (x4_1 : Int).toNat)] from rfl) (Reps.none _ _))); intro v342 w15 ho16 hb hg_ hnew_; clear hg_ hnew_; (first | rw [← Ny341.out] at ho16 | (simp only [Int.reduceToNat] at ho16; rw [← Ny341.out] at ho16)); have n0_ := Aside0.mk (Kd.R_elder' (qR HO_3.out) (Kd.R_base ho16) hb); have n1_ := Aside0.mk (Kd.R_lower (Kd.R_new' ho16 (Kd.R_lt (qR HO_3.out))) (below_size (qB HB.out))); have n2_ := Aside0.mk (below_step (qB HB.out) hb); clear HO_3; clear HB; have HO_3 := n0_; have HO343 := n1_; have HB := n2_; clear n0_ n1_ n2_; clear hb ho16; obtain ⟨Ao17, co17, eo17⟩ := Kd.R_slice HO343.out; subst eo17) | ((with_reducible refine gate_callee (f := 35) rfl ?_); refine goesL_ (some 16) rfl rfl Try.func35 (by kernel_rfl) rfl #[.string a0, .slice Ao17 y341.length co17] rfl qV ?_; (with_reducible refine (impl_isCovered.calls k1 a0 _ _ y341 false _ ?side1 ?side2 A5.out).mono ?_); (case side1 => exact qC (Kd.R_reads' HO343.out).2.2); (case side2 => exact (Kd.R_reads' HO343.out).2.1); rintro e w18 ⟨rfl, hb⟩; refine ⟨_, rfl, ?_⟩; have n0_ := Aside0.mk (Kd.R_below (qR HO_3.out) hb); have n1_ := Aside0.mk (Kd.R_below (qR HO343.out) hb); have n2_ := Aside0.mk (below_step (qB HB.out) hb); clear HO_3; clear HO343; clear HB; have HO_3 := n0_; have HO343 := n1_; have HB := n2_; clear n0_ n1_ n2_))
      go_roundg k1
      case measure => have := HK1.out; omega
      case rel => exact ⟨(x3_1), (wrap64 (x4_1 + 1)), qF, H', ⟨by have := HK1.out; omega⟩, ⟨by (with_reducible repeat (first | apply Kd.R_alloc | apply Kd.R_drewN | apply Kd.R_drew)); exact Kd.R_mono HO_3.out (fun _ hk => trivial)⟩, ⟨qB HB.out⟩⟩
    ·
     rw [if_neg c3] at H
     exact absurd H (by simp)
   ·
    rw [if_neg c2] at H
    have c2b0 : decide (x4_1 ≤ (a0.size : Int)) = false := decide_eq_false c2
    clear c2
    obtain rfl := Option.some.inj H
    go_wp2
    go_ret
    exact ⟨_, qE, qR HO_3.out, qB HB.out⟩

end Go.Proofs.Ytoadancbpgignaa.PF

namespace Go.Proofs.Ytoadancbpgignaa.PF
open Go.RowKit Go.Proofs.YtoadancbpgignaaW.PrintWords Go.Proofs.YtoadancbpgignaaW.PrintLast Go.Proofs.YtoadancbpgignaaW.PrintMore
attribute [local go_sem] max2_int min2_int max_two min_two max_three min_three max_four min_four   -- for this text's walks alone
set_option linter.unusedVariables false
set_option linter.unusedSimpArgs false

/-! ### impl_CoversOf: function 6 -/
def impl_CoversOf.f (k : Nat) (a0 : ByteArray) : Option (List ByteArray × Int) := (impl_wordCode.f k (impl_always.f) (([a0] : List ByteArray))).bind fun t351 => (if t351 = 0 then ((impl_covers.f k a0).bind fun t352 => (some (t352, 0))) else (some (([] : List ByteArray), t351)))
theorem impl_CoversOf.mono : ∀ a0 k, LeO (impl_CoversOf.f k a0) (impl_CoversOf.f (k + 1) a0) := by
 intro a0 k
 unfold impl_CoversOf.f
 repeat' first
   | (with_reducible exact impl_covers.mono _ _)
   | (with_reducible exact LeO.refl _)
   | (with_reducible exact LeO.none _)
   | (with_reducible refine LeO.ite ?_ ?_)
   | (with_reducible refine LeO.bind ?_ (fun _ => ?_))
   | refine impl_wordCode.monoP ?_
set_option maxHeartbeats 8000000 in
set_option maxRecDepth 100000 in
theorem impl_CoversOf.calls (k : Nat) (a0 : ByteArray) (r1 : List ByteArray) (r2 : Int) (w : World) (h : impl_CoversOf.f k a0 = some (r1, r2)) :
  Calls Try.prog 6 #[.string a0] w fun e w' => ∃ v0_ : Value, e = .returned (.tuple #[v0_, .int .i64 r2]) ∧ Kd.R Kd.string 9 w' w.heap.size (fun _ => True) v0_ r1 ∧ Below w.heap.size w w' := by
 have HB := Aside0.mk (Below.refl w.heap.size w)
 have H : ((impl_wordCode.f k (impl_always.f) (([a0] : List ByteArray))).bind fun t351 => (if t351 = 0 then ((impl_covers.f k a0).bind fun t352 => (some (t352, 0))) else (some (([] : List ByteArray), t351)))) = some (r1, r2) := h
 clear h
 obtain ⟨y348, hy348⟩ : ∃ y_ : List ByteArray, y_ = (([a0] : List ByteArray)) := ⟨_, rfl⟩
 replace H : ((impl_wordCode.f k (impl_always.f) y348).bind fun t351 => (if t351 = 0 then ((impl_covers.f k a0).bind fun t352 => (some (t352, 0))) else (some (([] : List ByteArray), t351)))) = some (r1, r2) := by first | (rw [hy348]; with_reducible exact H) | (have H2_ := (Option.bind_some _ _).symm.trans H; rw [hy348]; with_reducible exact H2_) | (have H2_ := (Option.bind_some _ _).symm.trans H; with_reducible exact H2_) | with_reducible exact H | (rw [hy348]; exact H) | exact H
 have Ny348 := Aside0.mk hy348
 clear hy348
 replace H := Option.bind_eq_some_iff.mp H
 obtain ⟨t351, A20, H⟩ := H
 replace H : (if t351 = 0 then ((impl_covers.f k a0).bind fun t352 => (some (t352, 0))) else (some (([] : List ByteArray), t351))) = some (r1, r2) := H
 have A2 := Aside0.mk A20
 clear A20
 by_cases c3 : t351 = 0
 ·
  rw [if_pos c3] at H
  have c3b0 : (t351 == 0) = true := beq_iff_eq.mpr c3
  have c3b1 : (t351 != 0) = false := bne_eq_false_iff_eq.mpr c3
  clear c3
  replace H := Option.bind_eq_some_iff.mp H
  obtain ⟨t352, A40, H⟩ := H
  replace H : (some (t352, 0)) = some (r1, r2) := H
  have A4 := Aside0.mk A40
  clear A40
  simp only [Option.some.injEq, Prod.mk.injEq] at H
  obtain ⟨rfl, rfl⟩ := H
  go_enter Try.func6, Try.ntmps6
  go_wp2_with (first | ((with_reducible refine gate_dst (N := 6) rfl ?_); refine Kd.R_lit Kd.string _ 9 ?hg (N := 6) ?hd (xs := ([a0] : List ByteArray)) (inner := [.string a0]) (ok := fun _ => True) (okp := fun _ => True) ?hr ?hp (fun _ hk => hk) trivial (Below.refl _ _) (Nat.le_refl _) (by simp) ?_; (case hd => rfl); (case hg => rfl); (case hr => first | (go_simp; done) | (go_simp; rfl)); (case hp => exact (Reps.one (show Kd.M Kd.string _ _ _ a0 [.string a0] from rfl) (Reps.none _ _))); intro v349 w5 ho6 hb hg_ hnew_; clear hg_ hnew_; (first | rw [← Ny348.out] at ho6 | (simp only [Int.reduceToNat] at ho6; rw [← Ny348.out] at ho6)); have n0_ := Aside0.mk (Kd.R_lower ho6 (below_size (qB HB.out))); have n1_ := Aside0.mk (below_step (qB HB.out) hb); clear HB; have HO350 := n0_; have HB := n1_; clear n0_ n1_; clear hb ho6; obtain ⟨Ao7, co7, eo7⟩ := Kd.R_slice HO350.out; subst eo7) | ((with_reducible refine gate_callee (f := 28) rfl ?_); refine goesL_ (some 7) rfl rfl Try.func28 (by kernel_rfl) rfl #[.func (.func 29) #[] #[], .slice Ao7 y348.length co7] rfl qV ?_; (with_reducible refine (impl_wordCode.calls k (impl_always.f) 29 #[] _ _ y348 t351 _ ?side1 ?side2 ?side3 A2.out).mono ?_); (case side1 => exact qC (Kd.R_reads' HO350.out).2.2); (case side2 => exact (Kd.R_reads' HO350.out).2.1); (case side3 => exact ⟨Go.Proofs.enters_of Try.func29 (by kernel_rfl) rfl, fun W_ hW_ r_ h_ => (impl_always.calls  r_ W_  h_).mono (fun e_ W2_ h2_ => ⟨h2_.1, by first | exact h2_.2 | exact h2_.2.below⟩)⟩); rintro e w8 ⟨rfl, hb⟩; refine ⟨_, rfl, ?_⟩; have n0_ := Aside0.mk (Kd.R_below (qR HO350.out) hb); have n1_ := Aside0.mk (below_step (qB HB.out) hb); clear HO350; clear HB; have HO350 := n0_; have HB := n1_; clear n0_ n1_) | ((with_reducible refine gate_callee (f := 30) rfl ?_); refine goesL_ (some 12) rfl rfl Try.func30 (by kernel_rfl) rfl #[.string a0] rfl qV ?_; (with_reducible refine (impl_covers.calls k a0 t352 _ A4.out).mono ?_); rintro e w9 ⟨v353, rfl, ho0, hb⟩; refine ⟨_, rfl, ?_⟩; have n0_ := Aside0.mk (Kd.R_elder' (qR HO350.out) (Kd.R_base ho0) hb); have n1_ := Aside0.mk (Kd.R_lower (Kd.R_new' ho0 (Kd.R_lt (qR HO350.out))) (below_size (qB HB.out))); have n2_ := Aside0.mk (below_step (qB HB.out) hb); clear HO350; clear HB; have HO350 := n0_; have HO354 := n1_; have HB := n2_; clear n0_ n1_ n2_))
  go_ret2
  exact ⟨_, qE, by (with_reducible repeat (first | apply Kd.R_alloc | apply Kd.R_drewN | apply Kd.R_drew)); exact Kd.R_mono HO354.out (fun _ hk => trivial), qB HB.out⟩
 ·
  rw [if_neg c3] at H
  have c3b0 : (t351 == 0) = false := beq_eq_false_iff_ne.mpr c3
  have c3b1 : (t351 != 0) = true := bne_iff_ne.mpr c3
  simp only [Option.some.injEq, Prod.mk.injEq] at H
  obtain ⟨rfl, rfl⟩ := H
  go_enter Try.func6, Try.ntmps6
  go_wp2_with (first | ((with_reducible refine gate_dst (N := 6) rfl ?_); refine Kd.R_lit Kd.string _ 9 ?hg (N := 6) ?hd (xs := ([a0] : List ByteArray)) (inner := [.string a0]) (ok := fun _ => True) (okp := fun _ => True) ?hr ?hp (fun _ hk => hk) trivial (Below.refl _ _) (Nat.le_refl _) (by simp) ?_; (case hd => rfl); (case hg => rfl); (case hr => first | (go_simp; done) | (go_simp; rfl)); (case hp => exact (Reps.one (show Kd.M Kd.string _ _ _ a0 [.string a0] from rfl) (Reps.none _ _))); intro v349 w10 ho11 hb hg_ hnew_; clear hg_ hnew_; (first | rw [← Ny348.out] at ho11 | (simp only [Int.reduceToNat] at ho11; rw [← Ny348.out] at ho11)); have n0_ := Aside0.mk (Kd.R_lower ho11 (below_size (qB HB.out))); have n1_ := Aside0.mk (below_step (qB HB.out) hb); clear HB; have HO350 := n0_; have HB := n1_; clear n0_ n1_; clear hb ho11; obtain ⟨Ao12, co12, eo12⟩ := Kd.R_slice HO350.out; subst eo12) | ((with_reducible refine gate_callee (f := 28) rfl ?_); refine goesL_ (some 7) rfl rfl Try.func28 (by kernel_rfl) rfl #[.func (.func 29) #[] #[], .slice Ao12 y348.length co12] rfl qV ?_; (with_reducible refine (impl_wordCode.calls k (impl_always.f) 29 #[] _ _ y348 t351 _ ?side1 ?side2 ?side3 A2.out).mono ?_); (case side1 => exact qC (Kd.R_reads' HO350.out).2.2); (case side2 => exact (Kd.R_reads' HO350.out).2.1); (case side3 => exact ⟨Go.Proofs.enters_of Try.func29 (by kernel_rfl) rfl, fun W_ hW_ r_ h_ => (impl_always.calls  r_ W_  h_).mono (fun e_ W2_ h2_ => ⟨h2_.1, by first | exact h2_.2 | exact h2_.2.below⟩)⟩); rintro e w13 ⟨rfl, hb⟩; refine ⟨_, rfl, ?_⟩; have n0_ := Aside0.mk (Kd.R_below (qR HO350.out) hb); have n1_ := Aside0.mk (below_step (qB HB.out) hb); clear HO350; clear HB; have HO350 := n0_; have HB := n1_; clear n0_ n1_))
  go_ret2
  exact ⟨_, qE, by first | exact Kd.R_nil _ _ _ _ _ | exact Kd.N_nil _ _ _ _ _ | exact Kd.V_nil _ _ _ _ _ | exact Kd.Q_nil _ _ _ _ _ | exact Kd.S_nil _ _ _ _ _, qB HB.out⟩

end Go.Proofs.Ytoadancbpgignaa.PF

namespace Go.Proofs.Ytoadancbpgignaa.PF
open Go.RowKit Go.Proofs.YtoadancbpgignaaW.PrintWords Go.Proofs.YtoadancbpgignaaW.PrintLast Go.Proofs.YtoadancbpgignaaW.PrintMore
attribute [local go_sem] max2_int min2_int max_two min_two max_three min_three max_four min_four   -- for this text's walks alone
set_option linter.unusedVariables false
set_option linter.unusedSimpArgs false

/-! ### impl_LeastCover: function 8 -/
def impl_LeastCover.f (k : Nat) (a0 : ByteArray) : Option (ByteArray × Int) := (impl_wordCode.f k (impl_always.f) (([a0] : List ByteArray))).bind fun t388 => (if t388 = 0 then (if a0.toList = ([] : List UInt8) then (some ((⟨#[]⟩ : ByteArray), 4)) else ((impl_covers.f k a0).bind fun t389 => (if 0 < (t389.length : Int) then (some (rdOf ByteArray.empty t389 0, 0)) else (none)))) else (some ((⟨#[]⟩ : ByteArray), t388)))
theorem impl_LeastCover.mono : ∀ a0 k, LeO (impl_LeastCover.f k a0) (impl_LeastCover.f (k + 1) a0) := by
 intro a0 k
 unfold impl_LeastCover.f
 repeat' first
   | (with_reducible exact impl_covers.mono _ _)
   | (with_reducible exact LeO.refl _)
   | (with_reducible exact LeO.none _)
   | (with_reducible refine LeO.ite ?_ ?_)
   | (with_reducible refine LeO.bind ?_ (fun _ => ?_))
   | refine impl_wordCode.monoP ?_
set_option maxHeartbeats 8000000 in
set_option maxRecDepth 100000 in
theorem impl_LeastCover.calls (k : Nat) (a0 : ByteArray) (r1 : ByteArray) (r2 : Int) (w : World) (h : impl_LeastCover.f k a0 = some (r1, r2)) :
  Calls Try.prog 8 #[.string a0] w fun e w' => e = .returned (.tuple #[.string r1, .int .i64 r2]) ∧ Below w.heap.size w w' := by
 have HB := Aside0.mk (Below.refl w.heap.size w)
 have H : ((impl_wordCode.f k (impl_always.f) (([a0] : List ByteArray))).bind fun t388 => (if t388 = 0 then (if a0.toList = ([] : List UInt8) then (some ((⟨#[]⟩ : ByteArray), 4)) else ((impl_covers.f k a0).bind fun t389 => (if 0 < (t389.length : Int) then (some (rdOf ByteArray.empty t389 0, 0)) else (none)))) else (some ((⟨#[]⟩ : ByteArray), t388)))) = some (r1, r2) := h
 clear h
 obtain ⟨y385, hy385⟩ : ∃ y_ : List ByteArray, y_ = (([a0] : List ByteArray)) := ⟨_, rfl⟩
 replace H : ((impl_wordCode.f k (impl_always.f) y385).bind fun t388 => (if t388 = 0 then (if a0.toList = ([] : List UInt8) then (some ((⟨#[]⟩ : ByteArray), 4)) else ((impl_covers.f k a0).bind fun t389 => (if 0 < (t389.length : Int) then (some (rdOf ByteArray.empty t389 0, 0)) else (none)))) else (some ((⟨#[]⟩ : ByteArray), t388)))) = some (r1, r2) := by first | (rw [hy385]; with_reducible exact H) | (have H2_ := (Option.bind_some _ _).symm.trans H; rw [hy385]; with_reducible exact H2_) | (have H2_ := (Option.bind_some _ _).symm.trans H; with_reducible exact H2_) | with_reducible exact H | (rw [hy385]; exact H) | exact H
 have Ny385 := Aside0.mk hy385
 clear hy385
 replace H := Option.bind_eq_some_iff.mp H
 obtain ⟨t388, A20, H⟩ := H
 replace H : (if t388 = 0 then (if a0.toList = ([] : List UInt8) then (some ((⟨#[]⟩ : ByteArray), 4)) else ((impl_covers.f k a0).bind fun t389 => (if 0 < (t389.length : Int) then (some (rdOf ByteArray.empty t389 0, 0)) else (none)))) else (some ((⟨#[]⟩ : ByteArray), t388))) = some (r1, r2) := H
 have A2 := Aside0.mk A20
 clear A20
 by_cases c3 : t388 = 0
 ·
  rw [if_pos c3] at H
  have c3b0 : (t388 == 0) = true := beq_iff_eq.mpr c3
  have c3b1 : (t388 != 0) = false := bne_eq_false_iff_eq.mpr c3
  clear c3
  by_cases c4 : a0.toList = ([] : List UInt8)
  ·
   rw [if_pos c4] at H
   have c4b0 : (a0.toList == ([] : List UInt8)) = true := beq_iff_eq.mpr c4
   have c4b1 : (a0.toList != ([] : List UInt8)) = false := bne_eq_false_iff_eq.mpr c4
   clear c4
   simp only [Option.some.injEq, Prod.mk.injEq] at H
   obtain ⟨rfl, rfl⟩ := H
   go_enter Try.func8, Try.ntmps8
   go_wp2_with (first | ((with_reducible refine gate_dst (N := 6) rfl ?_); refine Kd.R_lit Kd.string _ 9 ?hg (N := 6) ?hd (xs := ([a0] : List ByteArray)) (inner := [.string a0]) (ok := fun _ => True) (okp := fun _ => True) ?hr ?hp (fun _ hk => hk) trivial (Below.refl _ _) (Nat.le_refl _) (by simp) ?_; (case hd => rfl); (case hg => rfl); (case hr => first | (go_simp; done) | (go_simp; rfl)); (case hp => exact (Reps.one (show Kd.M Kd.string _ _ _ a0 [.string a0] from rfl) (Reps.none _ _))); intro v386 w5 ho6 hb hg_ hnew_; clear hg_ hnew_; (first | rw [← Ny385.out] at ho6 | (simp only [Int.reduceToNat] at ho6; rw [← Ny385.out] at ho6)); have n0_ := Aside0.mk (Kd.R_lower ho6 (below_size (qB HB.out))); have n1_ := Aside0.mk (below_step (qB HB.out) hb); clear HB; have HO387 := n0_; have HB := n1_; clear n0_ n1_; clear hb ho6; obtain ⟨Ao7, co7, eo7⟩ := Kd.R_slice HO387.out; subst eo7) | ((with_reducible refine gate_callee (f := 28) rfl ?_); refine goesL_ (some 7) rfl rfl Try.func28 (by kernel_rfl) rfl #[.func (.func 29) #[] #[], .slice Ao7 y385.length co7] rfl qV ?_; (with_reducible refine (impl_wordCode.calls k (impl_always.f) 29 #[] _ _ y385 t388 _ ?side1 ?side2 ?side3 A2.out).mono ?_); (case side1 => exact qC (Kd.R_reads' HO387.out).2.2); (case side2 => exact (Kd.R_reads' HO387.out).2.1); (case side3 => exact ⟨Go.Proofs.enters_of Try.func29 (by kernel_rfl) rfl, fun W_ hW_ r_ h_ => (impl_always.calls  r_ W_  h_).mono (fun e_ W2_ h2_ => ⟨h2_.1, by first | exact h2_.2 | exact h2_.2.below⟩)⟩); rintro e w8 ⟨rfl, hb⟩; refine ⟨_, rfl, ?_⟩; have n0_ := Aside0.mk (Kd.R_below (qR HO387.out) hb); have n1_ := Aside0.mk (below_step (qB HB.out) hb); clear HO387; clear HB; have HO387 := n0_; have HB := n1_; clear n0_ n1_))
   go_ret2
   exact ⟨qE, qB HB.out⟩
  ·
   rw [if_neg c4] at H
   have c4b0 : (a0.toList == ([] : List UInt8)) = false := beq_eq_false_iff_ne.mpr c4
   have c4b1 : (a0.toList != ([] : List UInt8)) = true := bne_iff_ne.mpr c4
   replace H := Option.bind_eq_some_iff.mp H
   obtain ⟨t389, A90, H⟩ := H
   replace H : (if 0 < (t389.length : Int) then (some (rdOf ByteArray.empty t389 0, 0)) else (none)) = some (r1, r2) := H
   have A9 := Aside0.mk A90
   clear A90
   by_cases c10 : 0 < (t389.length : Int)
   ·
    rw [if_pos c10] at H
    have c10b0 : decide (0 < (t389.length : Int)) = true := decide_eq_true c10
    have c10b1 : decide (0 < t389.length) = true := decide_eq_true (by omega)
    clear c10
    simp only [Option.some.injEq, Prod.mk.injEq] at H
    obtain ⟨rfl, rfl⟩ := H
    go_enter Try.func8, Try.ntmps8
    go_wp2_with (first | ((with_reducible refine gate_dst (N := 6) rfl ?_); refine Kd.R_lit Kd.string _ 9 ?hg (N := 6) ?hd (xs := ([a0] : List ByteArray)) (inner := [.string a0]) (ok := fun _ => True) (okp := fun _ => True) ?hr ?hp (fun _ hk => hk) trivial (Below.refl _ _) (Nat.le_refl _) (by simp) ?_; (case hd => rfl); (case hg => rfl); (case hr => first | (go_simp; done) | (go_simp; rfl)); (case hp => exact (Reps.one (show Kd.M Kd.string _ _ _ a0 [.string a0] from rfl) (Reps.none _ _))); intro v386 w11 ho12 hb hg_ hnew_; clear hg_ hnew_; (first | rw [← Ny385.out] at ho12 | (simp only [Int.reduceToNat] at ho12; rw [← Ny385.out] at ho12)); have n0_ := Aside0.mk (Kd.R_lower ho12 (below_size (qB HB.out))); have n1_ := Aside0.mk (below_step (qB HB.out) hb); clear HB; have HO387 := n0_; have HB := n1_; clear n0_ n1_; clear hb ho12; obtain ⟨Ao13, co13, eo13⟩ := Kd.R_slice HO387.out; subst eo13) | ((with_reducible refine gate_callee (f := 28) rfl ?_); refine goesL_ (some 7) rfl rfl Try.func28 (by kernel_rfl) rfl #[.func (.func 29) #[] #[], .slice Ao13 y385.length co13] rfl qV ?_; (with_reducible refine (impl_wordCode.calls k (impl_always.f) 29 #[] _ _ y385 t388 _ ?side1 ?side2 ?side3 A2.out).mono ?_); (case side1 => exact qC (Kd.R_reads' HO387.out).2.2); (case side2 => exact (Kd.R_reads' HO387.out).2.1); (case side3 => exact ⟨Go.Proofs.enters_of Try.func29 (by kernel_rfl) rfl, fun W_ hW_ r_ h_ => (impl_always.calls  r_ W_  h_).mono (fun e_ W2_ h2_ => ⟨h2_.1, by first | exact h2_.2 | exact h2_.2.below⟩)⟩); rintro e w14 ⟨rfl, hb⟩; refine ⟨_, rfl, ?_⟩; have n0_ := Aside0.mk (Kd.R_below (qR HO387.out) hb); have n1_ := Aside0.mk (below_step (qB HB.out) hb); clear HO387; clear HB; have HO387 := n0_; have HB := n1_; clear n0_ n1_) | ((with_reducible refine gate_callee (f := 30) rfl ?_); refine goesL_ (some 14) rfl rfl Try.func30 (by kernel_rfl) rfl #[.string a0] rfl qV ?_; (with_reducible refine (impl_covers.calls k a0 t389 _ A9.out).mono ?_); rintro e w15 ⟨v390, rfl, ho0, hb⟩; refine ⟨_, rfl, ?_⟩; have n0_ := Aside0.mk (Kd.R_elder' (qR HO387.out) (Kd.R_base ho0) hb); have n1_ := Aside0.mk (Kd.R_lower (Kd.R_new' ho0 (Kd.R_lt (qR HO387.out))) (below_size (qB HB.out))); have n2_ := Aside0.mk (below_step (qB HB.out) hb); clear HO387; clear HB; have HO387 := n0_; have HO391 := n1_; have HB := n2_; clear n0_ n1_ n2_; obtain ⟨Ao16, co16, eo16⟩ := Kd.R_slice HO391.out; subst eo16; have p392 : 0 ≤ (0 : Int) := (by omega); have q392 : 0 < (t389.length : Int) := of_decide_eq_true (by first | (with_reducible assumption) | assumption); obtain ⟨ad392, e392, hx392_0⟩ := Kd.at_string (Kd.R_reads' HO391.out).2.2 0 p392 q392; cases e392; have qi392 : (0 < t389.length) = True := eq_true (by omega); (try rw [show ((0 : Int)).toNat = 0 from rfl] at hx392_0); (try rw [Addr.add_zero'] at hx392_0); replace p392 := eq_true p392; replace q392 := eq_true q392))
    go_ret2
    exact ⟨qE, qB HB.out⟩
   ·
    rw [if_neg c10] at H
    exact absurd H (by simp)
 ·
  rw [if_neg c3] at H
  have c3b0 : (t388 == 0) = false := beq_eq_false_iff_ne.mpr c3
  have c3b1 : (t388 != 0) = true := bne_iff_ne.mpr c3
  simp only [Option.some.injEq, Prod.mk.injEq] at H
  obtain ⟨rfl, rfl⟩ := H
  go_enter Try.func8, Try.ntmps8
  go_wp2_with (first | ((with_reducible refine gate_dst (N := 6) rfl ?_); refine Kd.R_lit Kd.string _ 9 ?hg (N := 6) ?hd (xs := ([a0] : List ByteArray)) (inner := [.string a0]) (ok := fun _ => True) (okp := fun _ => True) ?hr ?hp (fun _ hk => hk) trivial (Below.refl _ _) (Nat.le_refl _) (by simp) ?_; (case hd => rfl); (case hg => rfl); (case hr => first | (go_simp; done) | (go_simp; rfl)); (case hp => exact (Reps.one (show Kd.M Kd.string _ _ _ a0 [.string a0] from rfl) (Reps.none _ _))); intro v386 w17 ho18 hb hg_ hnew_; clear hg_ hnew_; (first | rw [← Ny385.out] at ho18 | (simp only [Int.reduceToNat] at ho18; rw [← Ny385.out] at ho18)); have n0_ := Aside0.mk (Kd.R_lower ho18 (below_size (qB HB.out))); have n1_ := Aside0.mk (below_step (qB HB.out) hb); clear HB; have HO387 := n0_; have HB := n1_; clear n0_ n1_; clear hb ho18; obtain ⟨Ao19, co19, eo19⟩ := Kd.R_slice HO387.out; subst eo19) | ((with_reducible refine gate_callee (f := 28) rfl ?_); refine goesL_ (some 7) rfl rfl Try.func28 (by kernel_rfl) rfl #[.func (.func 29) #[] #[], .slice Ao19 y385.length co19] rfl qV ?_; (with_reducible refine (impl_wordCode.calls k (impl_always.f) 29 #[] _ _ y385 t388 _ ?side1 ?side2 ?side3 A2.out).mono ?_); (case side1 => exact qC (Kd.R_reads' HO387.out).2.2); (case side2 => exact (Kd.R_reads' HO387.out).2.1); (case side3 => exact ⟨Go.Proofs.enters_of Try.func29 (by kernel_rfl) rfl, fun W_ hW_ r_ h_ => (impl_always.calls  r_ W_  h_).mono (fun e_ W2_ h2_ => ⟨h2_.1, by first | exact h2_.2 | exact h2_.2.below⟩)⟩); rintro e w20 ⟨rfl, hb⟩; refine ⟨_, rfl, ?_⟩; have n0_ := Aside0.mk (Kd.R_below (qR HO387.out) hb); have n1_ := Aside0.mk (below_step (qB HB.out) hb); clear HO387; clear HB; have HO387 := n0_; have HB := n1_; clear n0_ n1_))
  go_ret2
  exact ⟨qE, qB HB.out⟩

end Go.Proofs.Ytoadancbpgignaa.PF

namespace Go.Proofs.Ytoadancbpgignaa.PF
open Go.RowKit Go.Proofs.YtoadancbpgignaaW.PrintWords Go.Proofs.YtoadancbpgignaaW.PrintLast Go.Proofs.YtoadancbpgignaaW.PrintMore
attribute [local go_sem] max2_int min2_int max_two min_two max_three min_three max_four min_four   -- for this text's walks alone
set_option linter.unusedVariables false
set_option linter.unusedSimpArgs false

/-! ### impl_CoverLengths: function 10 -/
def impl_CoverLengths.l0 : Nat → ByteArray → List Int → Int → Int → Option (List Int × Int)
 | 0, _, _, _, _ => none
 | k + 1, x0, x5, x14, x15 => if x15 < x14 then (if 0 ≤ (wrap64 (x15 + 1)) then (if (wrap64 (x15 + 1)) ≤ (x0.size : Int) then ((impl_covers.f k (x0.extract 0 ((wrap64 (x15 + 1)) : Int).toNat)).bind fun t402 => (if 0 < (t402.length : Int) then ((impl_size.f (rdOf ByteArray.empty t402 0)).bind fun t406 => (if x5.length < 17592186044416 then (impl_CoverLengths.l0 k x0 (x5 ++ [t406]) x14 (wrap64 (x15 + 1))) else (none))) else (none))) else (none)) else (none)) else (some (x5, 0))
def impl_CoverLengths.f (k : Nat) (a0 : ByteArray) : Option (List Int × Int) := (impl_wordCode.f k (impl_always.f) (([a0] : List ByteArray))).bind fun t401 => (if t401 = 0 then (impl_CoverLengths.l0 k a0 ([] : List Int) (a0.size : Int) 0) else (some (([] : List Int), t401)))
theorem impl_CoverLengths.mono_l : ∀ k, (∀ y0 y1 y2 y3, LeO (impl_CoverLengths.l0 k y0 y1 y2 y3) (impl_CoverLengths.l0 (k + 1) y0 y1 y2 y3))
 | 0 => fun _ _ _ _ r h => by simp [impl_CoverLengths.l0] at h
 | k + 1 => by
  have ih0 := impl_CoverLengths.mono_l k
  ·
   intro y0 y1 y2 y3
   unfold impl_CoverLengths.l0
   repeat' first
   | (with_reducible exact ih0 _ _ _ _)
   | (with_reducible exact impl_covers.mono _ _)
   | (with_reducible exact LeO.refl _)
   | (with_reducible exact LeO.none _)
   | (with_reducible refine LeO.ite ?_ ?_)
   | (with_reducible refine LeO.bind ?_ (fun _ => ?_))
   | refine impl_wordCode.monoP ?_
theorem impl_CoverLengths.mono : ∀ a0 k, LeO (impl_CoverLengths.f k a0) (impl_CoverLengths.f (k + 1) a0) := by
 intro a0 k
 have ih0 := impl_CoverLengths.mono_l k
 unfold impl_CoverLengths.f
 repeat' first
   | (with_reducible exact ih0 _ _ _ _)
   | (with_reducible exact impl_covers.mono _ _)
   | (with_reducible exact LeO.refl _)
   | (with_reducible exact LeO.none _)
   | (with_reducible refine LeO.ite ?_ ?_)
   | (with_reducible refine LeO.bind ?_ (fun _ => ?_))
   | refine impl_wordCode.monoP ?_
set_option maxHeartbeats 8000000 in
set_option maxRecDepth 100000 in
theorem impl_CoverLengths.calls (k : Nat) (a0 : ByteArray) (r1 : List Int) (r2 : Int) (w : World) (h : impl_CoverLengths.f k a0 = some (r1, r2)) :
  Calls Try.prog 10 #[.string a0] w fun e w' => ∃ v0_ : Value, e = .returned (.tuple #[v0_, .int .i64 r2]) ∧ Kd.R (Kd.int .i64) 2 w' w.heap.size (fun _ => True) v0_ r1 ∧ Below w.heap.size w w' := by
 have HB := Aside0.mk (Below.refl w.heap.size w)
 have H : ((impl_wordCode.f k (impl_always.f) (([a0] : List ByteArray))).bind fun t401 => (if t401 = 0 then (impl_CoverLengths.l0 k a0 ([] : List Int) (a0.size : Int) 0) else (some (([] : List Int), t401)))) = some (r1, r2) := h
 clear h
 obtain ⟨y398, hy398⟩ : ∃ y_ : List ByteArray, y_ = (([a0] : List ByteArray)) := ⟨_, rfl⟩
 replace H : ((impl_wordCode.f k (impl_always.f) y398).bind fun t401 => (if t401 = 0 then (impl_CoverLengths.l0 k a0 ([] : List Int) (a0.size : Int) 0) else (some (([] : List Int), t401)))) = some (r1, r2) := by first | (rw [hy398]; with_reducible exact H) | (have H2_ := (Option.bind_some _ _).symm.trans H; rw [hy398]; with_reducible exact H2_) | (have H2_ := (Option.bind_some _ _).symm.trans H; with_reducible exact H2_) | with_reducible exact H | (rw [hy398]; exact H) | exact H
 have Ny398 := Aside0.mk hy398
 clear hy398
 replace H := Option.bind_eq_some_iff.mp H
 obtain ⟨t401, A20, H⟩ := H
 replace H : (if t401 = 0 then (impl_CoverLengths.l0 k a0 ([] : List Int) (a0.size : Int) 0) else (some (([] : List Int), t401))) = some (r1, r2) := H
 have A2 := Aside0.mk A20
 clear A20
 by_cases c3 : t401 = 0
 ·
  rw [if_pos c3] at H
  have c3b0 : (t401 == 0) = true := beq_iff_eq.mpr c3
  have c3b1 : (t401 != 0) = false := bne_eq_false_iff_eq.mpr c3
  clear c3
  have H' := Aside0.mk H
  clear H
  go_enter Try.func10, Try.ntmps10
  go_wp2_with (first | ((with_reducible refine gate_dst (N := 8) rfl ?_); refine Kd.R_lit Kd.string _ 9 ?hg (N := 8) ?hd (xs := ([a0] : List ByteArray)) (inner := [.string a0]) (ok := fun _ => True) (okp := fun _ => True) ?hr ?hp (fun _ hk => hk) trivial (Below.refl _ _) (Nat.le_refl _) (by simp) ?_; (case hd => rfl); (case hg => rfl); (case hr => first | (go_simp; done) | (go_simp; rfl)); (case hp => exact (Reps.one (show Kd.M Kd.string _ _ _ a0 [.string a0] from rfl) (Reps.none _ _))); intro v399 w4 ho5 hb hg_ hnew_; clear hg_ hnew_; (first | rw [← Ny398.out] at ho5 | (simp only [Int.reduceToNat] at ho5; rw [← Ny398.out] at ho5)); have n0_ := Aside0.mk (Kd.R_lower ho5 (below_size (qB HB.out))); have n1_ := Aside0.mk (below_step (qB HB.out) hb); clear HB; have HO400 := n0_; have HB := n1_; clear n0_ n1_; clear hb ho5; obtain ⟨Ao6, co6, eo6⟩ := Kd.R_slice HO400.out; subst eo6) | ((with_reducible refine gate_callee (f := 28) rfl ?_); refine goesL_ (some 9) rfl rfl Try.func28 (by kernel_rfl) rfl #[.func (.func 29) #[] #[], .slice Ao6 y398.length co6] rfl qV ?_; (with_reducible refine (impl_wordCode.calls k (impl_always.f) 29 #[] _ _ y398 t401 _ ?side1 ?side2 ?side3 A2.out).mono ?_); (case side1 => exact qC (Kd.R_reads' HO400.out).2.2); (case side2 => exact (Kd.R_reads' HO400.out).2.1); (case side3 => exact ⟨Go.Proofs.enters_of Try.func29 (by kernel_rfl) rfl, fun W_ hW_ r_ h_ => (impl_always.calls  r_ W_  h_).mono (fun e_ W2_ h2_ => ⟨h2_.1, by first | exact h2_.2 | exact h2_.2.below⟩)⟩); rintro e w7 ⟨rfl, hb⟩; refine ⟨_, rfl, ?_⟩; have n0_ := Aside0.mk (Kd.R_below (qR HO400.out) hb); have n1_ := Aside0.mk (below_step (qB HB.out) hb); clear HO400; clear HB; have HO400 := n0_; have HB := n1_; clear n0_ n1_))
  go_loopg [5, 15] k (fun kq v5 v15 w' => ∃ (x5_1 : List Int) (x15_1 : Int), v15 = .int .i64 x15_1 ∧ Aside0 (impl_CoverLengths.l0 kq a0 x5_1 (a0.size : Int) x15_1 = some (r1, r2)) ∧ Aside0 (kq ≤ k) ∧ Aside0 (Kd.R (Kd.int .i64) 2 w' w.heap.size (fun _ => True) v5 x5_1) ∧ Aside0 (Below w.heap.size w w'))
  case atStart => exact ⟨(([] : List Int)), (0), qF, H', ⟨Nat.le_refl _⟩, ⟨by first | exact Kd.R_nil _ _ _ _ _ | exact Kd.N_nil _ _ _ _ _ | exact Kd.V_nil _ _ _ _ _ | exact Kd.Q_nil _ _ _ _ _ | exact Kd.S_nil _ _ _ _ _⟩, ⟨qB HB.out⟩⟩
  case round =>
   clear H'
   obtain ⟨x5_1, x15_1, rfl, HA, HK1, HO_5, HB⟩ := hrel
   cases gk with
   | zero => exact absurd HA.out (by simp [impl_CoverLengths.l0])
   | succ k1 =>
    have H := HA.out
    clear HA
    simp only [impl_CoverLengths.l0] at H
    by_cases c8 : x15_1 < (a0.size : Int)
    ·
     rw [if_pos c8] at H
     have c8b0 : decide (x15_1 < (a0.size : Int)) = true := decide_eq_true c8
     clear c8
     obtain ⟨ji9, hji9⟩ : ∃ j_ : Int, (wrap64 (x15_1 + 1)) = j_ := ⟨_, rfl⟩
     replace H : (if 0 ≤ (ji9) then (if (ji9) ≤ (a0.size : Int) then ((impl_covers.f k1 (a0.extract 0 ((ji9) : Int).toNat)).bind fun t402 => (if 0 < (t402.length : Int) then ((impl_size.f (rdOf ByteArray.empty t402 0)).bind fun t406 => (if x5_1.length < 17592186044416 then (impl_CoverLengths.l0 k1 a0 (x5_1 ++ [t406]) (a0.size : Int) ji9) else (none))) else (none))) else (none)) else (none)) = some (r1, r2) := by first | (rw [hji9] at H; exact H) | (simp only [hji9] at H ⊢; exact H)
     have hji9w : (IntKind.i64.wrap (x15_1 + 1)) = ji9 := (i64_w _).trans hji9
     by_cases c10 : 0 ≤ (ji9)
     ·
      rw [if_pos c10] at H
      have c10b0 := eq_true c10
      have c10b1 : decide (0 ≤ (ji9)) = true := decide_eq_true c10
      clear c10
      by_cases c11 : (ji9) ≤ (a0.size : Int)
      ·
       rw [if_pos c11] at H
       have c11b0 := eq_true c11
       have c11b1 : decide ((ji9) ≤ (a0.size : Int)) = true := decide_eq_true c11
       clear c11
       replace H := Option.bind_eq_some_iff.mp H
       obtain ⟨t402, A120, H⟩ := H
       replace H : (if 0 < (t402.length : Int) then ((impl_size.f (rdOf ByteArray.empty t402 0)).bind fun t406 => (if x5_1.length < 17592186044416 then (impl_CoverLengths.l0 k1 a0 (x5_1 ++ [t406]) (a0.size : Int) ji9) else (none))) else (none)) = some (r1, r2) := H
       have A12 := Aside0.mk A120
       clear A120
       by_cases c13 : 0 < (t402.length : Int)
       ·
        rw [if_pos c13] at H
        have c13b0 : decide (0 < (t402.length : Int)) = true := decide_eq_true c13
        have c13b1 : decide (0 < t402.length) = true := decide_eq_true (by omega)
        clear c13
        replace H := Option.bind_eq_some_iff.mp H
        obtain ⟨t406, A140, H⟩ := H
        replace H : (if x5_1.length < 17592186044416 then (impl_CoverLengths.l0 k1 a0 (x5_1 ++ [t406]) (a0.size : Int) ji9) else (none)) = some (r1, r2) := H
        have A14 := Aside0.mk A140
        clear A140
        by_cases c15 : x5_1.length < 17592186044416
        ·
         rw [if_pos c15] at H
         have LMc15 := Aside0.mk c15
         clear c15
         obtain ⟨y407, hy407⟩ : ∃ y_ : List Int, y_ = (x5_1 ++ [t406]) := ⟨_, rfl⟩
         replace H : (impl_CoverLengths.l0 k1 a0 y407 (a0.size : Int) ji9) = some (r1, r2) := by first | (rw [hy407]; with_reducible exact H) | (have H2_ := (Option.bind_some _ _).symm.trans H; rw [hy407]; with_reducible exact H2_) | (have H2_ := (Option.bind_some _ _).symm.trans H; with_reducible exact H2_) | with_reducible exact H | (rw [hy407]; exact H) | exact H
         have Ny407 := Aside0.mk hy407
         clear hy407
         have H' := Aside0.mk H
         clear H
         go_wp2_with (first | ((with_reducible refine gate_callee (f := 30) rfl ?_); refine goesL_ (some 23) rfl rfl Try.func30 (by kernel_rfl) rfl #[.string (a0.extract 0 ((ji9) : Int).toNat)] rfl (by (try simp only [List.map_toArray, List.map_cons, List.map_nil]); first | done | (simp only [hji9]; rfl) | rfl | (simp only [List.length_drop, List.length_take]; rfl)) ?_; (with_reducible refine (impl_covers.calls k1 (a0.extract 0 ((ji9) : Int).toNat) t402 _ A12.out).mono ?_); rintro e w16 ⟨v403, rfl, ho0, hb⟩; refine ⟨_, rfl, ?_⟩; have n0_ := Aside0.mk (Kd.R_below (qR HO_5.out) hb); have n1_ := Aside0.mk (Kd.R_lower ho0 (below_size (qB HB.out))); have n2_ := Aside0.mk (below_step (qB HB.out) hb); clear HO_5; clear HB; have HO_5 := n0_; have HO404 := n1_; have HB := n2_; clear n0_ n1_ n2_; obtain ⟨Ao17, co17, eo17⟩ := Kd.R_slice HO404.out; subst eo17; have p405 : 0 ≤ (0 : Int) := (by omega); have q405 : 0 < (t402.length : Int) := of_decide_eq_true (by first | (with_reducible assumption) | assumption); obtain ⟨ad405, e405, hx405_0⟩ := Kd.at_string (Kd.R_reads' HO404.out).2.2 0 p405 q405; cases e405; have qi405 : (0 < t402.length) = True := eq_true (by omega); (try rw [show ((0 : Int)).toNat = 0 from rfl] at hx405_0); (try rw [Addr.add_zero'] at hx405_0); replace p405 := eq_true p405; replace q405 := eq_true q405) | ((with_reducible refine gate_callee (f := 33) rfl ?_); refine goesL_ (some 26) rfl rfl Try.func33 (by kernel_rfl) rfl #[.string (rdOf ByteArray.empty t402 0)] rfl qV ?_; (with_reducible refine (impl_size.calls (rdOf ByteArray.empty t402 0) t406 _ A14.out).mono ?_); rintro e w' ⟨rfl, ⟨nd, rfl⟩⟩; refine ⟨_, rfl, ?_⟩) | ((with_reducible refine gate_builtin (b := .append) (xs := #[.tmp 18, .tmp 27]) rfl ?_); at_builtin; refine Kd.R_append (Kd.int .i64) (w0 := w) w.heap.size rfl (.tmp 18) (.tmp 27) 30 2 (.int .i64 0) 8 rfl Try.underlying30 info2 rfl (by decide) (by omega) u5 x5_1 t406 [.int .i64 t406] (fun _ => True) (fun _ => False) rfl rfl ?aP (fun _ hk => hk.elim) ?aF ?aO ?aB ?aS ?aL ?_; (case aP => exact rfl); (case aB => exact (qB HB.out)); (case aF => exact (fun _ _ => trivial)); (case aO => exact (qR HO_5.out)); (case aS => exact (below_size (qB HB.out))); (case aL => have := LMc15.out; omega); intro v408 w18 ho hb hg hat; rw [← Ny407.out] at ho; have n0_ := Aside0.mk (Kd.R_over' (qR HO404.out) (Kd.R_typed (qR HO_5.out)) (by decide) hg); have n1_ := Aside0.mk (hb); have n2_ := Aside0.mk (ho); clear HO404; clear HB; clear HO_5; have HO404 := n0_; have HB := n1_; have HO409 := n2_; clear n0_ n1_ n2_; clear ho hb hg hat))
         go_roundg k1
         case measure => have := HK1.out; omega
         case rel => exact ⟨(y407), (ji9), (by first | rfl | (simp; done) | (simp only [← hji9] <;> (first | rfl | simp)) | (simp [*]; done)), H', ⟨by have := HK1.out; omega⟩, ⟨qR HO409.out⟩, ⟨qB HB.out⟩⟩
        ·
         rw [if_neg c15] at H
         exact absurd H (by simp)
       ·
        rw [if_neg c13] at H
        exact absurd H (by simp)
      ·
       rw [if_neg c11] at H
       exact absurd H (by simp)
     ·
      rw [if_neg c10] at H
      exact absurd H (by simp)
    ·
     rw [if_neg c8] at H
     have c8b0 : decide (x15_1 < (a0.size : Int)) = false := decide_eq_false c8
     clear c8
     simp only [Option.some.injEq, Prod.mk.injEq] at H
     obtain ⟨rfl, rfl⟩ := H
     go_wp2
     go_ret2
     exact ⟨_, qE, qR HO_5.out, qB HB.out⟩
 ·
  rw [if_neg c3] at H
  have c3b0 : (t401 == 0) = false := beq_eq_false_iff_ne.mpr c3
  have c3b1 : (t401 != 0) = true := bne_iff_ne.mpr c3
  simp only [Option.some.injEq, Prod.mk.injEq] at H
  obtain ⟨rfl, rfl⟩ := H
  go_enter Try.func10, Try.ntmps10
  go_wp2_with (first | ((with_reducible refine gate_dst (N := 8) rfl ?_); refine Kd.R_lit Kd.string _ 9 ?hg (N := 8) ?hd (xs := ([a0] : List ByteArray)) (inner := [.string a0]) (ok := fun _ => True) (okp := fun _ => True) ?hr ?hp (fun _ hk => hk) trivial (Below.refl _ _) (Nat.le_refl _) (by simp) ?_; (case hd => rfl); (case hg => rfl); (case hr => first | (go_simp; done) | (go_simp; rfl)); (case hp => exact (Reps.one (show Kd.M Kd.string _ _ _ a0 [.string a0] from rfl) (Reps.none _ _))); intro v399 w19 ho20 hb hg_ hnew_; clear hg_ hnew_; (first | rw [← Ny398.out] at ho20 | (simp only [Int.reduceToNat] at ho20; rw [← Ny398.out] at ho20)); have n0_ := Aside0.mk (Kd.R_lower ho20 (below_size (qB HB.out))); have n1_ := Aside0.mk (below_step (qB HB.out) hb); clear HB; have HO400 := n0_; have HB := n1_; clear n0_ n1_; clear hb ho20; obtain ⟨Ao21, co21, eo21⟩ := Kd.R_slice HO400.out; subst eo21) | ((with_reducible refine gate_callee (f := 28) rfl ?_); refine goesL_ (some 9) rfl rfl Try.func28 (by kernel_rfl) rfl #[.func (.func 29) #[] #[], .slice Ao21 y398.length co21] rfl qV ?_; (with_reducible refine (impl_wordCode.calls k (impl_always.f) 29 #[] _ _ y398 t401 _ ?side1 ?side2 ?side3 A2.out).mono ?_); (case side1 => exact qC (Kd.R_reads' HO400.out).2.2); (case side2 => exact (Kd.R_reads' HO400.out).2.1); (case side3 => exact ⟨Go.Proofs.enters_of Try.func29 (by kernel_rfl) rfl, fun W_ hW_ r_ h_ => (impl_always.calls  r_ W_  h_).mono (fun e_ W2_ h2_ => ⟨h2_.1, by first | exact h2_.2 | exact h2_.2.below⟩)⟩); rintro e w22 ⟨rfl, hb⟩; refine ⟨_, rfl, ?_⟩; have n0_ := Aside0.mk (Kd.R_below (qR HO400.out) hb); have n1_ := Aside0.mk (below_step (qB HB.out) hb); clear HO400; clear HB; have HO400 := n0_; have HB := n1_; clear n0_ n1_))
  go_ret2
  exact ⟨_, qE, by first | exact Kd.R_nil _ _ _ _ _ | exact Kd.N_nil _ _ _ _ _ | exact Kd.V_nil _ _ _ _ _ | exact Kd.Q_nil _ _ _ _ _ | exact Kd.S_nil _ _ _ _ _, qB HB.out⟩

end Go.Proofs.Ytoadancbpgignaa.PF

namespace Go.Proofs.Ytoadancbpgignaa.PF
open Go.RowKit Go.Proofs.YtoadancbpgignaaW.PrintWords Go.Proofs.YtoadancbpgignaaW.PrintLast Go.Proofs.YtoadancbpgignaaW.PrintMore
attribute [local go_sem] max2_int min2_int max_two min_two max_three min_three max_four min_four   -- for this text's walks alone
set_option linter.unusedVariables false
set_option linter.unusedSimpArgs false

/-! ### impl_IsSuperprimitive: function 12 -/
def impl_IsSuperprimitive.f (k : Nat) (a0 : ByteArray) : Option (Bool × Int) := (impl_wordCode.f k (impl_always.f) (([a0] : List ByteArray))).bind fun t424 => (if t424 = 0 then ((impl_covers.f k a0).bind fun t425 => (some (((t425.length : Int) == 1), 0))) else (some (false, t424)))
theorem impl_IsSuperprimitive.mono : ∀ a0 k, LeO (impl_IsSuperprimitive.f k a0) (impl_IsSuperprimitive.f (k + 1) a0) := by
 intro a0 k
 unfold impl_IsSuperprimitive.f
 repeat' first
   | (with_reducible exact impl_covers.mono _ _)
   | (with_reducible exact LeO.refl _)
   | (with_reducible exact LeO.none _)
   | (with_reducible refine LeO.ite ?_ ?_)
   | (with_reducible refine LeO.bind ?_ (fun _ => ?_))
   | refine impl_wordCode.monoP ?_
set_option maxHeartbeats 8000000 in
set_option maxRecDepth 100000 in
theorem impl_IsSuperprimitive.calls (k : Nat) (a0 : ByteArray) (r1 : Bool) (r2 : Int) (w : World) (h : impl_IsSuperprimitive.f k a0 = some (r1, r2)) :
  Calls Try.prog 12 #[.string a0] w fun e w' => e = .returned (.tuple #[.bool r1, .int .i64 r2]) ∧ Below w.heap.size w w' := by
 have HB := Aside0.mk (Below.refl w.heap.size w)
 have H : ((impl_wordCode.f k (impl_always.f) (([a0] : List ByteArray))).bind fun t424 => (if t424 = 0 then ((impl_covers.f k a0).bind fun t425 => (some (((t425.length : Int) == 1), 0))) else (some (false, t424)))) = some (r1, r2) := h
 clear h
 obtain ⟨y421, hy421⟩ : ∃ y_ : List ByteArray, y_ = (([a0] : List ByteArray)) := ⟨_, rfl⟩
 replace H : ((impl_wordCode.f k (impl_always.f) y421).bind fun t424 => (if t424 = 0 then ((impl_covers.f k a0).bind fun t425 => (some (((t425.length : Int) == 1), 0))) else (some (false, t424)))) = some (r1, r2) := by first | (rw [hy421]; with_reducible exact H) | (have H2_ := (Option.bind_some _ _).symm.trans H; rw [hy421]; with_reducible exact H2_) | (have H2_ := (Option.bind_some _ _).symm.trans H; with_reducible exact H2_) | with_reducible exact H | (rw [hy421]; exact H) | exact H
 have Ny421 := Aside0.mk hy421
 clear hy421
 replace H := Option.bind_eq_some_iff.mp H
 obtain ⟨t424, A20, H⟩ := H
 replace H : (if t424 = 0 then ((impl_covers.f k a0).bind fun t425 => (some (((t425.length : Int) == 1), 0))) else (some (false, t424))) = some (r1, r2) := H
 have A2 := Aside0.mk A20
 clear A20
 by_cases c3 : t424 = 0
 ·
  rw [if_pos c3] at H
  have c3b0 : (t424 == 0) = true := beq_iff_eq.mpr c3
  have c3b1 : (t424 != 0) = false := bne_eq_false_iff_eq.mpr c3
  clear c3
  replace H := Option.bind_eq_some_iff.mp H
  obtain ⟨t425, A40, H⟩ := H
  replace H : (some (((t425.length : Int) == 1), 0)) = some (r1, r2) := H
  have A4 := Aside0.mk A40
  clear A40
  simp only [Option.some.injEq, Prod.mk.injEq] at H
  obtain ⟨rfl, rfl⟩ := H
  go_enter Try.func12, Try.ntmps12
  go_wp2_with (first | ((with_reducible refine gate_dst (N := 6) rfl ?_); refine Kd.R_lit Kd.string _ 9 ?hg (N := 6) ?hd (xs := ([a0] : List ByteArray)) (inner := [.string a0]) (ok := fun _ => True) (okp := fun _ => True) ?hr ?hp (fun _ hk => hk) trivial (Below.refl _ _) (Nat.le_refl _) (by simp) ?_; (case hd => rfl); (case hg => rfl); (case hr => first | (go_simp; done) | (go_simp; rfl)); (case hp => exact (Reps.one (show Kd.M Kd.string _ _ _ a0 [.string a0] from rfl) (Reps.none _ _))); intro v422 w5 ho6 hb hg_ hnew_; clear hg_ hnew_; (first | rw [← Ny421.out] at ho6 | (simp only [Int.reduceToNat] at ho6; rw [← Ny421.out] at ho6)); have n0_ := Aside0.mk (Kd.R_lower ho6 (below_size (qB HB.out))); have n1_ := Aside0.mk (below_step (qB HB.out) hb); clear HB; have HO423 := n0_; have HB := n1_; clear n0_ n1_; clear hb ho6; obtain ⟨Ao7, co7, eo7⟩ := Kd.R_slice HO423.out; subst eo7) | ((with_reducible refine gate_callee (f := 28) rfl ?_); refine goesL_ (some 7) rfl rfl Try.func28 (by kernel_rfl) rfl #[.func (.func 29) #[] #[], .slice Ao7 y421.length co7] rfl qV ?_; (with_reducible refine (impl_wordCode.calls k (impl_always.f) 29 #[] _ _ y421 t424 _ ?side1 ?side2 ?side3 A2.out).mono ?_); (case side1 => exact qC (Kd.R_reads' HO423.out).2.2); (case side2 => exact (Kd.R_reads' HO423.out).2.1); (case side3 => exact ⟨Go.Proofs.enters_of Try.func29 (by kernel_rfl) rfl, fun W_ hW_ r_ h_ => (impl_always.calls  r_ W_  h_).mono (fun e_ W2_ h2_ => ⟨h2_.1, by first | exact h2_.2 | exact h2_.2.below⟩)⟩); rintro e w8 ⟨rfl, hb⟩; refine ⟨_, rfl, ?_⟩; have n0_ := Aside0.mk (Kd.R_below (qR HO423.out) hb); have n1_ := Aside0.mk (below_step (qB HB.out) hb); clear HO423; clear HB; have HO423 := n0_; have HB := n1_; clear n0_ n1_) | ((with_reducible refine gate_callee (f := 30) rfl ?_); refine goesL_ (some 12) rfl rfl Try.func30 (by kernel_rfl) rfl #[.string a0] rfl qV ?_; (with_reducible refine (impl_covers.calls k a0 t425 _ A4.out).mono ?_); rintro e w9 ⟨v426, rfl, ho0, hb⟩; refine ⟨_, rfl, ?_⟩; have n0_ := Aside0.mk (Kd.R_elder' (qR HO423.out) (Kd.R_base ho0) hb); have n1_ := Aside0.mk (Kd.R_lower (Kd.R_new' ho0 (Kd.R_lt (qR HO423.out))) (below_size (qB HB.out))); have n2_ := Aside0.mk (below_step (qB HB.out) hb); clear HO423; clear HB; have HO423 := n0_; have HO427 := n1_; have HB := n2_; clear n0_ n1_ n2_; obtain ⟨Ao10, co10, eo10⟩ := Kd.R_slice HO427.out; subst eo10))
  go_ret2
  exact ⟨qE, qB HB.out⟩
 ·
  rw [if_neg c3] at H
  have c3b0 : (t424 == 0) = false := beq_eq_false_iff_ne.mpr c3
  have c3b1 : (t424 != 0) = true := bne_iff_ne.mpr c3
  simp only [Option.some.injEq, Prod.mk.injEq] at H
  obtain ⟨rfl, rfl⟩ := H
  go_enter Try.func12, Try.ntmps12
  go_wp2_with (first | ((with_reducible refine gate_dst (N := 6) rfl ?_); refine Kd.R_lit Kd.string _ 9 ?hg (N := 6) ?hd (xs := ([a0] : List ByteArray)) (inner := [.string a0]) (ok := fun _ => True) (okp := fun _ => True) ?hr ?hp (fun _ hk => hk) trivial (Below.refl _ _) (Nat.le_refl _) (by simp) ?_; (case hd => rfl); (case hg => rfl); (case hr => first | (go_simp; done) | (go_simp; rfl)); (case hp => exact (Reps.one (show Kd.M Kd.string _ _ _ a0 [.string a0] from rfl) (Reps.none _ _))); intro v422 w11 ho12 hb hg_ hnew_; clear hg_ hnew_; (first | rw [← Ny421.out] at ho12 | (simp only [Int.reduceToNat] at ho12; rw [← Ny421.out] at ho12)); have n0_ := Aside0.mk (Kd.R_lower ho12 (below_size (qB HB.out))); have n1_ := Aside0.mk (below_step (qB HB.out) hb); clear HB; have HO423 := n0_; have HB := n1_; clear n0_ n1_; clear hb ho12; obtain ⟨Ao13, co13, eo13⟩ := Kd.R_slice HO423.out; subst eo13) | ((with_reducible refine gate_callee (f := 28) rfl ?_); refine goesL_ (some 7) rfl rfl Try.func28 (by kernel_rfl) rfl #[.func (.func 29) #[] #[], .slice Ao13 y421.length co13] rfl qV ?_; (with_reducible refine (impl_wordCode.calls k (impl_always.f) 29 #[] _ _ y421 t424 _ ?side1 ?side2 ?side3 A2.out).mono ?_); (case side1 => exact qC (Kd.R_reads' HO423.out).2.2); (case side2 => exact (Kd.R_reads' HO423.out).2.1); (case side3 => exact ⟨Go.Proofs.enters_of Try.func29 (by kernel_rfl) rfl, fun W_ hW_ r_ h_ => (impl_always.calls  r_ W_  h_).mono (fun e_ W2_ h2_ => ⟨h2_.1, by first | exact h2_.2 | exact h2_.2.below⟩)⟩); rintro e w14 ⟨rfl, hb⟩; refine ⟨_, rfl, ?_⟩; have n0_ := Aside0.mk (Kd.R_below (qR HO423.out) hb); have n1_ := Aside0.mk (below_step (qB HB.out) hb); clear HO423; clear HB; have HO423 := n0_; have HB := n1_; clear n0_ n1_))
  go_ret2
  exact ⟨qE, qB HB.out⟩

end Go.Proofs.Ytoadancbpgignaa.PF

namespace Go.Proofs.Ytoadancbpgignaa.PF
open Go.RowKit Go.Proofs.YtoadancbpgignaaW.PrintWords Go.Proofs.YtoadancbpgignaaW.PrintLast Go.Proofs.YtoadancbpgignaaW.PrintMore
attribute [local go_sem] max2_int min2_int max_two min_two max_three min_three max_four min_four   -- for this text's walks alone
set_option linter.unusedVariables false
set_option linter.unusedSimpArgs false

/-! ### impl_isSeed: function 37 -/
mutual
def impl_isSeed.j2 : Nat → ByteArray → ByteArray → List Bool → Option (Bool)
 | 0, _, _, _ => none
 | k + 1, x0, x1, x5 => impl_isSeed.l2 k x0 x1 x5 (wrap64 ((x1.size : Int) - 1))
def impl_isSeed.l2 : Nat → ByteArray → ByteArray → List Bool → Int → Option (Bool)
 | 0, _, _, _, _ => none
 | k + 1, x0, x1, x5, x8 => if x8 > 0 then (if 0 ≤ x8 then (if x8 ≤ (x1.size : Int) then ((strings_HasSuffix.f x0 (x1.extract 0 (x8 : Int).toNat)).bind fun t468 => (if t468 = true then (impl_isSeed.l3 k x0 x5 x8 0) else (impl_isSeed.l2 k x0 x1 x5 (wrap64 (x8 - 1))))) else (none)) else (none)) else ((slices_Contains_bool_bool.f k x5 false).bind fun t467 => (some (!t467)))
def impl_isSeed.l3 : Nat → ByteArray → List Bool → Int → Int → Option (Bool)
 | 0, _, _, _, _ => none
 | k + 1, x0, x5, x49, x50 => if x50 < x49 then (if 0 ≤ (wrap64 ((wrap64 ((x0.size : Int) - 1)) - x50)) then (if (wrap64 ((wrap64 ((x0.size : Int) - 1)) - x50)) < (x5.length : Int) then (impl_isSeed.l3 k x0 (x5.set ((wrap64 ((wrap64 ((x0.size : Int) - 1)) - x50)) : Int).toNat true) x49 (wrap64 (x50 + 1))) else (none)) else (none)) else ((slices_Contains_bool_bool.f k x5 false).bind fun t470 => (some (!t470)))
def impl_isSeed.l0 : Nat → ByteArray → ByteArray → List Bool → Int → Option (Bool)
 | 0, _, _, _, _ => none
 | k + 1, x0, x1, x5, x6 => if x6 > 0 then (if 0 ≤ (wrap64 ((x1.size : Int) - x6)) then (if (wrap64 ((x1.size : Int) - x6)) ≤ (x1.size : Int) then ((strings_HasPrefix.f x0 (x1.extract ((wrap64 ((x1.size : Int) - x6)) : Int).toNat x1.size)).bind fun t465 => (if t465 = true then (impl_isSeed.l1 k x0 x1 x5 x6 0) else (impl_isSeed.l0 k x0 x1 x5 (wrap64 (x6 - 1))))) else (none)) else (none)) else (impl_isSeed.j2 k x0 x1 x5)
def impl_isSeed.l1 : Nat → ByteArray → ByteArray → List Bool → Int → Int → Option (Bool)
 | 0, _, _, _, _, _ => none
 | k + 1, x0, x1, x5, x29, x30 => if x30 < x29 then (if 0 ≤ x30 then (if x30 < (x5.length : Int) then (impl_isSeed.l1 k x0 x1 (x5.set (x30 : Int).toNat true) x29 (wrap64 (x30 + 1))) else (none)) else (none)) else (impl_isSeed.j2 k x0 x1 x5)
end
def impl_isSeed.f (k : Nat) (a0 : ByteArray) (a1 : ByteArray) : Option (Bool) := (impl_covered.f k a0 (([a1] : List ByteArray))).bind fun t462 => (impl_isSeed.l0 k a0 a1 t462 (wrap64 ((a1.size : Int) - 1)))
theorem impl_isSeed.mono_l : ∀ k, (∀ y0 y1 y2, LeO (impl_isSeed.j2 k y0 y1 y2) (impl_isSeed.j2 (k + 1) y0 y1 y2)) ∧ (∀ y0 y1 y2 y3, LeO (impl_isSeed.l2 k y0 y1 y2 y3) (impl_isSeed.l2 (k + 1) y0 y1 y2 y3)) ∧ (∀ y0 y1 y2 y3, LeO (impl_isSeed.l3 k y0 y1 y2 y3) (impl_isSeed.l3 (k + 1) y0 y1 y2 y3)) ∧ (∀ y0 y1 y2 y3, LeO (impl_isSeed.l0 k y0 y1 y2 y3) (impl_isSeed.l0 (k + 1) y0 y1 y2 y3)) ∧ (∀ y0 y1 y2 y3 y4, LeO (impl_isSeed.l1 k y0 y1 y2 y3 y4) (impl_isSeed.l1 (k + 1) y0 y1 y2 y3 y4))
 | 0 => ⟨fun _ _ _ r h => by simp [impl_isSeed.j2] at h, fun _ _ _ _ r h => by simp [impl_isSeed.l2] at h, fun _ _ _ _ r h => by simp [impl_isSeed.l3] at h, fun _ _ _ _ r h => by simp [impl_isSeed.l0] at h, fun _ _ _ _ _ r h => by simp [impl_isSeed.l1] at h⟩
 | k + 1 => by
  obtain ⟨ih0, ih1, ih2, ih3, ih4⟩ := impl_isSeed.mono_l k
  refine ⟨?_, ?_, ?_, ?_, ?_⟩
  ·
   intro y0 y1 y2
   unfold impl_isSeed.j2
   repeat' first
   | (with_reducible exact ih0 _ _ _)
   | (with_reducible exact ih1 _ _ _ _)
   | (with_reducible exact ih2 _ _ _ _)
   | (with_reducible exact ih3 _ _ _ _)
   | (with_reducible exact ih4 _ _ _ _ _)
   | (with_reducible exact impl_covered.mono _ _ _)
   | (with_reducible exact slices_Contains_bool_bool.mono _ _ _)
   | (with_reducible exact LeO.refl _)
   | (with_reducible exact LeO.none _)
   | (with_reducible refine LeO.ite ?_ ?_)
   | (with_reducible refine LeO.bind ?_ (fun _ => ?_))
  ·
   intro y0 y1 y2 y3
   unfold impl_isSeed.l2
   repeat' first
   | (with_reducible exact ih0 _ _ _)
   | (with_reducible exact ih1 _ _ _ _)
   | (with_reducible exact ih2 _ _ _ _)
   | (with_reducible exact ih3 _ _ _ _)
   | (with_reducible exact ih4 _ _ _ _ _)
   | (with_reducible exact impl_covered.mono _ _ _)
   | (with_reducible exact slices_Contains_bool_bool.mono _ _ _)
   | (with_reducible exact LeO.refl _)
   | (with_reducible exact LeO.none _)
   | (with_reducible refine LeO.ite ?_ ?_)
   | (with_reducible refine LeO.bind ?_ (fun _ => ?_))
  ·
   intro y0 y1 y2 y3
   unfold impl_isSeed.l3
   repeat' first
   | (with_reducible exact ih0 _ _ _)
   | (with_reducible exact ih1 _ _ _ _)
   | (with_reducible exact ih2 _ _ _ _)
   | (with_reducible exact ih3 _ _ _ _)
   | (with_reducible exact ih4 _ _ _ _ _)
   | (with_reducible exact impl_covered.mono _ _ _)
   | (with_reducible exact slices_Contains_bool_bool.mono _ _ _)
   | (with_reducible exact LeO.refl _)
   | (with_reducible exact LeO.none _)
   | (with_reducible refine LeO.ite ?_ ?_)
   | (with_reducible refine LeO.bind ?_ (fun _ => ?_))
  ·
   intro y0 y1 y2 y3
   unfold impl_isSeed.l0
   repeat' first
   | (with_reducible exact ih0 _ _ _)
   | (with_reducible exact ih1 _ _ _ _)
   | (with_reducible exact ih2 _ _ _ _)
   | (with_reducible exact ih3 _ _ _ _)
   | (with_reducible exact ih4 _ _ _ _ _)
   | (with_reducible exact impl_covered.mono _ _ _)
   | (with_reducible exact slices_Contains_bool_bool.mono _ _ _)
   | (with_reducible exact LeO.refl _)
   | (with_reducible exact LeO.none _)
   | (with_reducible refine LeO.ite ?_ ?_)
   | (with_reducible refine LeO.bind ?_ (fun _ => ?_))
  ·
   intro y0 y1 y2 y3 y4
   unfold impl_isSeed.l1
   repeat' first
   | (with_reducible exact ih0 _ _ _)
   | (with_reducible exact ih1 _ _ _ _)
   | (with_reducible exact ih2 _ _ _ _)
   | (with_reducible exact ih3 _ _ _ _)
   | (with_reducible exact ih4 _ _ _ _ _)
   | (with_reducible exact impl_covered.mono _ _ _)
   | (with_reducible exact slices_Contains_bool_bool.mono _ _ _)
   | (with_reducible exact LeO.refl _)
   | (with_reducible exact LeO.none _)
   | (with_reducible refine LeO.ite ?_ ?_)
   | (with_reducible refine LeO.bind ?_ (fun _ => ?_))
theorem impl_isSeed.mono : ∀ a0 a1 k, LeO (impl_isSeed.f k a0 a1) (impl_isSeed.f (k + 1) a0 a1) := by
 intro a0 a1 k
 obtain ⟨ih0, ih1, ih2, ih3, ih4⟩ := impl_isSeed.mono_l k
 unfold impl_isSeed.f
 repeat' first
   | (with_reducible exact ih0 _ _ _)
   | (with_reducible exact ih1 _ _ _ _)
   | (with_reducible exact ih2 _ _ _ _)
   | (with_reducible exact ih3 _ _ _ _)
   | (with_reducible exact ih4 _ _ _ _ _)
   | (with_reducible exact impl_covered.mono _ _ _)
   | (with_reducible exact slices_Contains_bool_bool.mono _ _ _)
   | (with_reducible exact LeO.refl _)
   | (with_reducible exact LeO.none _)
   | (with_reducible refine LeO.ite ?_ ?_)
   | (with_reducible refine LeO.bind ?_ (fun _ => ?_))
set_option maxHeartbeats 8000000 in
set_option maxRecDepth 100000 in
theorem impl_isSeed.calls (k : Nat) (a0 : ByteArray) (a1 : ByteArray) (r : Bool) (w : World) (h : impl_isSeed.f k a0 a1 = some r) :
  Calls Try.prog 37 #[.string a0, .string a1] w fun e w' => e = .returned (.bool r) ∧ Below w.heap.size w w' := by
 have HB := Aside0.mk (Below.refl w.heap.size w)
 have H : ((impl_covered.f k a0 (([a1] : List ByteArray))).bind fun t462 => (impl_isSeed.l0 k a0 a1 t462 (wrap64 ((a1.size : Int) - 1)))) = some r := h
 clear h
 obtain ⟨y459, hy459⟩ : ∃ y_ : List ByteArray, y_ = (([a1] : List ByteArray)) := ⟨_, rfl⟩
 replace H : ((impl_covered.f k a0 y459).bind fun t462 => (impl_isSeed.l0 k a0 a1 t462 (wrap64 ((a1.size : Int) - 1)))) = some r := by first | (rw [hy459]; with_reducible exact H) | (have H2_ := (Option.bind_some _ _).symm.trans H; rw [hy459]; with_reducible exact H2_) | (have H2_ := (Option.bind_some _ _).symm.trans H; with_reducible exact H2_) | with_reducible exact H | (rw [hy459]; exact H) | exact H
 have Ny459 := Aside0.mk hy459
 clear hy459
 replace H := Option.bind_eq_some_iff.mp H
 obtain ⟨t462, A30, H⟩ := H
 replace H : (impl_isSeed.l0 k a0 a1 t462 (wrap64 ((a1.size : Int) - 1))) = some r := H
 have A3 := Aside0.mk A30
 clear A30
 have HC4 := Aside0.mk H
 clear H
 go_enter Try.func37, Try.ntmps37
 go_upto_block 0 with (first | ((with_reducible refine gate_dst (N := 12) rfl ?_); refine Kd.R_lit Kd.string _ 9 ?hg (N := 12) ?hd (xs := ([a1] : List ByteArray)) (inner := [.string a1]) (ok := fun _ => True) (okp := fun _ => True) ?hr ?hp (fun _ hk => hk) trivial (Below.refl _ _) (Nat.le_refl _) (by simp) ?_; (case hd => rfl); (case hg => rfl); (case hr => first | (go_simp; done) | (go_simp; rfl)); (case hp => exact (Reps.one (show Kd.M Kd.string _ _ _ a1 [.string a1] from rfl) (Reps.none _ _))); intro v460 w5 ho6 hb hg_ hnew_; clear hg_ hnew_; (first | rw [← Ny459.out] at ho6 | (simp only [Int.reduceToNat] at ho6; rw [← Ny459.out] at ho6)); have n0_ := Aside0.mk (Kd.R_lower ho6 (below_size (qB HB.out))); have n1_ := Aside0.mk (below_step (qB HB.out) hb); clear HB; have HO461 := n0_; have HB := n1_; clear n0_ n1_; clear hb ho6; obtain ⟨Ao7, co7, eo7⟩ := Kd.R_slice HO461.out; subst eo7) | ((with_reducible refine gate_callee (f := 36) rfl ?_); refine goesL_ (some 13) rfl rfl Try.func36 (by kernel_rfl) rfl #[.string a0, .slice Ao7 y459.length co7] rfl qV ?_; (with_reducible refine (impl_covered.calls k a0 _ _ y459 t462 _ ?side1 ?side2 A3.out).mono ?_); (case side1 => exact qC (Kd.R_reads' HO461.out).2.2); (case side2 => exact (Kd.R_reads' HO461.out).2.1); rintro e w8 ⟨v463, rfl, ho0, hb⟩; refine ⟨_, rfl, ?_⟩; have n0_ := Aside0.mk (Kd.R_below (qR HO461.out) hb); have n1_ := Aside0.mk (Kd.R_lower ho0 (below_size (qB HB.out))); have n2_ := Aside0.mk (below_step (qB HB.out) hb); clear HO461; clear HB; have HO461 := n0_; have HO464 := n1_; have HB := n2_; clear n0_ n1_ n2_))
 (try simp only [Act.put, List.setIfInBounds_toArray, List.set_cons_zero, List.set_cons_succ])
 go_cut [] (fun wc => ∃ (kq : Nat) (x5_3 : List Bool), Aside0 (impl_isSeed.j2 kq a0 a1 x5_3 = some r) ∧ Aside0 (kq ≤ k) ∧ Aside0 (Kd.R Kd.bool 4 wc w.heap.size (fun _ => True) v463 x5_3) ∧ Aside0 (Below w.heap.size w wc))
 case first =>
  have H := HC4.out
  clear HC4
  have H' := Aside0.mk H
  clear H
  go_wp2
  go_loopg [6] k (fun kq v6 w' => ∃ (x5_1 : List Bool) (x6_1 : Int), v6 = .int .i64 x6_1 ∧ Aside0 (impl_isSeed.l0 kq a0 a1 x5_1 x6_1 = some r) ∧ Aside0 (kq ≤ k) ∧ Aside0 (Kd.R Kd.bool 4 w' w.heap.size (fun _ => True) v463 x5_1) ∧ Aside0 (Below w.heap.size w w'))
  case atStart => exact ⟨(t462), (wrap64 ((a1.size : Int) - 1)), qF, H', ⟨Nat.le_refl _⟩, ⟨qR HO464.out⟩, ⟨qB HB.out⟩⟩
  case round =>
   clear H'
   obtain ⟨x5_1, x6_1, rfl, HA, HK1, HO_5, HB⟩ := hrel
   cases gk with
   | zero => exact absurd HA.out (by simp [impl_isSeed.l0])
   | succ k1 =>
    have H := HA.out
    clear HA
    simp only [impl_isSeed.l0] at H
    by_cases c9 : x6_1 > 0
    ·
     rw [if_pos c9] at H
     have c9b0 : decide (0 < x6_1) = true := decide_eq_true c9
     clear c9
     (first | rw [c9b0] | (simp only [i64_w, i32_w]; rw [c9b0]) | skip)
     obtain ⟨ji10, hji10⟩ : ∃ j_ : Int, (wrap64 ((a1.size : Int) - x6_1)) = j_ := ⟨_, rfl⟩
     replace H : (if 0 ≤ (ji10) then (if (ji10) ≤ (a1.size : Int) then ((strings_HasPrefix.f a0 (a1.extract ((ji10) : Int).toNat a1.size)).bind fun t465 => (if t465 = true then (impl_isSeed.l1 k1 a0 a1 x5_1 x6_1 0) else (impl_isSeed.l0 k1 a0 a1 x5_1 (wrap64 (x6_1 - 1))))) else (none)) else (none)) = some r := by first | (rw [hji10] at H; exact H) | (simp only [hji10] at H ⊢; exact H)
     have hji10w : (IntKind.i64.wrap ((a1.size : Int) - x6_1)) = ji10 := (i64_w _).trans hji10
     by_cases c11 : 0 ≤ (ji10)
     ·
      rw [if_pos c11] at H
      have c11b0 := eq_true c11
      have c11b1 : decide (0 ≤ (ji10)) = true := decide_eq_true c11
      clear c11
      by_cases c12 : (ji10) ≤ (a1.size : Int)
      ·
       rw [if_pos c12] at H
       have c12b0 := eq_true c12
       have c12b1 : decide ((ji10) ≤ (a1.size : Int)) = true := decide_eq_true c12
       clear c12
       replace H := Option.bind_eq_some_iff.mp H
       obtain ⟨t465, A130, H⟩ := H
       replace H : (if t465 = true then (impl_isSeed.l1 k1 a0 a1 x5_1 x6_1 0) else (impl_isSeed.l0 k1 a0 a1 x5_1 (wrap64 (x6_1 - 1)))) = some r := H
       have A13 := Aside0.mk A130
       clear A130
       by_cases c14 : t465 = true
       ·
        subst c14
        have H1 : (impl_isSeed.l1 k1 a0 a1 x5_1 x6_1 0) = some r := by rw [if_pos rfl] at H; exact H
        clear H
        have H := H1
        clear H1
        have H' := Aside0.mk H
        clear H
        go_wp2_with (first | ((with_reducible refine gate_callee (f := 50) rfl ?_); refine goesL_ (some 28) rfl rfl Try.func50 (by kernel_rfl) rfl #[.string a0, .string (a1.extract ((ji10) : Int).toNat a1.size)] rfl (by (try simp only [List.map_toArray, List.map_cons, List.map_nil]); first | done | (simp only [hji10]; rfl) | rfl | (simp only [List.length_drop, List.length_take]; rfl)) ?_; (with_reducible refine (strings_HasPrefix.calls a0 (a1.extract ((ji10) : Int).toNat a1.size) true _ A13.out).mono ?_); rintro e w' ⟨rfl, ⟨nd, rfl⟩⟩; refine ⟨_, rfl, ?_⟩))
        go_loopg [30] k1 (fun kq v30 w' => ∃ (x5_2 : List Bool) (x30_2 : Int), v30 = .int .i64 x30_2 ∧ Aside0 (impl_isSeed.l1 kq a0 a1 x5_2 x6_1 x30_2 = some r) ∧ Aside0 (kq ≤ k1) ∧ Aside0 (Kd.R Kd.bool 4 w' w.heap.size (fun _ => True) v463 x5_2) ∧ Aside0 (Below w.heap.size w w'))
        case atStart => exact ⟨(x5_1), (0), qF, H', ⟨Nat.le_refl _⟩, ⟨qR HO_5.out⟩, ⟨qB HB.out⟩⟩
        case round =>
         clear H'
         obtain ⟨x5_2, x30_2, rfl, HA, HK2, HO_5, HB⟩ := hrel
         cases gk with
         | zero => exact absurd HA.out (by simp [impl_isSeed.l1])
         | succ k2 =>
          have H := HA.out
          clear HA
          simp only [impl_isSeed.l1] at H
          by_cases c15 : x30_2 < x6_1
          ·
           rw [if_pos c15] at H
           have c15b0 : decide (x30_2 < x6_1) = true := decide_eq_true c15
           clear c15
           by_cases c16 : 0 ≤ x30_2
           ·
            rw [if_pos c16] at H
            have c16b0 : decide (0 ≤ x30_2) = true := decide_eq_true c16
            clear c16
            by_cases c17 : x30_2 < (x5_2.length : Int)
            ·
             rw [if_pos c17] at H
             have c17b0 : decide (x30_2 < (x5_2.length : Int)) = true := decide_eq_true c17
             clear c17
             obtain ⟨y466, hy466⟩ : ∃ y_ : List Bool, y_ = (x5_2.set (x30_2 : Int).toNat true) := ⟨_, rfl⟩
             replace H : (impl_isSeed.l1 k2 a0 a1 y466 x6_1 (wrap64 (x30_2 + 1))) = some r := by first | (rw [hy466]; with_reducible exact H) | (have H2_ := (Option.bind_some _ _).symm.trans H; rw [hy466]; with_reducible exact H2_) | (have H2_ := (Option.bind_some _ _).symm.trans H; with_reducible exact H2_) | with_reducible exact H | (rw [hy466]; exact H) | exact H
             have Ny466 := Aside0.mk hy466
             clear hy466
             have H' := Aside0.mk H
             clear H
             have p18 : 0 ≤ (x30_2 : Int) := of_decide_eq_true (by first | (with_reducible assumption) | assumption)
             have q18 : (x30_2 : Int) < ((x5_2.length : Int) : Int) := of_decide_eq_true (by first | (with_reducible assumption) | assumption)
             obtain ⟨go18, co18, eo18, gb18, gl18, cl18, HG18⟩ := Kd.R_form HO_5.out (by omega)
             (first | cases eo18 | (injection eo18 with ea_ en_ ec_; (first | subst ea_ | (injection ea_ with ea_; subst ea_)); subst ec_; clear en_))
             have GB18 := Aside0.mk gb18
             have GG18 := Aside0.mk HG18
             clear gb18 gl18 HG18
             obtain ⟨hx18_0, hf18_0⟩ := Kd.R_celln false HO_5.out (x30_2 : Int) p18 q18
             replace p18 := eq_true p18
             replace q18 := eq_true q18
             have HP19 := Kd.R_putg HO_5.out (x30_2 : Int) true
             go_wp2_with (first | ((with_reducible refine gate_store (t := 4) (p := 35) rfl ?_); refine store_event (t := 4) (p := 35) (v := ?vo_w20) (w1 := (wr.setCell ⟨go18, (x30_2 : Int).toNat, none⟩ (.bool true))) ?hg ?ho ?hn ?hr ?_; (case ho => rfl); (case hg => rfl); (case hn => rfl); (case hr => first | (go_simp; done) | (go_simp; rfl)); intro w20 hw; have hg : wr.grownBy w20 (some go18) := (by rw [hw]; exact HP19.2); have hp_ : Kd.R Kd.bool 4 w20 w.heap.size (fun _ => True) (.slice (some ⟨go18, 0, none⟩) x5_2.length co18) y466 := (by rw [hw, Ny466.out]; exact HP19.1); clear HP19; have n0_ := Aside0.mk (hp_); have n1_ := Aside0.mk ((by rw [hw]; exact below_set (HB.out) GB18.out : Below w.heap.size w w20)); clear HO_5; clear HB; have HO_5 := n0_; have HB := n1_; clear n0_ n1_; clear hg hw hp_))
             go_roundg k2
             case measure => have := HK1.out; have := HK2.out; omega
             case rel => exact ⟨(y466), (wrap64 (x30_2 + 1)), qF, H', ⟨by have := HK1.out; have := HK2.out; omega⟩, ⟨qR HO_5.out⟩, ⟨qB HB.out⟩⟩
            ·
             rw [if_neg c17] at H
             exact absurd H (by simp)
           ·
            rw [if_neg c16] at H
            exact absurd H (by simp)
          ·
           rw [if_neg c15] at H
           have c15b0 : decide (x30_2 < x6_1) = false := decide_eq_false c15
           clear c15
           have H' := Aside0.mk H
           clear H
           go_wp2
           go_meet
           case rel => exact ⟨_, (x5_2), H', ⟨by have := HK1.out; have := HK2.out; first | omega | exact Nat.le_refl _⟩, ⟨qR HO_5.out⟩, ⟨qB HB.out⟩⟩
       ·
        replace c14 := Bool.eq_false_iff.mpr c14
        subst c14
        have H1 : (impl_isSeed.l0 k1 a0 a1 x5_1 (wrap64 (x6_1 - 1))) = some r := by rw [if_neg (show ¬ (false = true) by decide)] at H; exact H
        clear H
        have H := H1
        clear H1
        have H' := Aside0.mk H
        clear H
        go_wp2_with (first | ((with_reducible refine gate_callee (f := 50) rfl ?_); refine goesL_ (some 28) rfl rfl Try.func50 (by kernel_rfl) rfl #[.string a0, .string (a1.extract ((ji10) : Int).toNat a1.size)] rfl (by (try simp only [List.map_toArray, List.map_cons, List.map_nil]); first | done | (simp only [hji10]; rfl) | rfl | (simp only [List.length_drop, List.length_take]; rfl)) ?_; (with_reducible refine (strings_HasPrefix.calls a0 (a1.extract ((ji10) : Int).toNat a1.size) false _ A13.out).mono ?_); rintro e w' ⟨rfl, ⟨nd, rfl⟩⟩; refine ⟨_, rfl, ?_⟩))
        go_roundg k1
        case measure => have := HK1.out; omega
        case rel => exact ⟨(x5_1), (wrap64 (x6_1 - 1)), qF, H', ⟨by have := HK1.out; omega⟩, ⟨qR HO_5.out⟩, ⟨qB HB.out⟩⟩
      ·
       rw [if_neg c12] at H
       exact absurd H (by simp)
     ·
      rw [if_neg c11] at H
      exact absurd H (by simp)
    ·
     rw [if_neg c9] at H
     have c9b0 : decide (0 < x6_1) = false := decide_eq_false c9
     clear c9
     (first | rw [c9b0] | (simp only [i64_w, i32_w]; rw [c9b0]) | skip)
     have H' := Aside0.mk H
     clear H
     go_wp2
     go_meet
     case rel => exact ⟨_, (x5_1), H', ⟨by have := HK1.out; first | omega | exact Nat.le_refl _⟩, ⟨qR HO_5.out⟩, ⟨qB HB.out⟩⟩
 case rest =>
  clear HC4
  obtain ⟨kq, x5_3, HA, HJ3, HO_5, HB⟩ := hcut
  cases kq with
  | zero => exact absurd HA.out (by simp [impl_isSeed.j2])
  | succ kj3 =>
   have H := HA.out
   clear HA
   simp only [impl_isSeed.j2] at H
   have H' := Aside0.mk H
   clear H
   go_wp2
   go_loopg [8] kj3 (fun kq v8 w' => ∃ (x5_2 : List Bool) (x8_2 : Int), v8 = .int .i64 x8_2 ∧ Aside0 (impl_isSeed.l2 kq a0 a1 x5_2 x8_2 = some r) ∧ Aside0 (kq ≤ kj3) ∧ Aside0 (Kd.R Kd.bool 4 w' w.heap.size (fun _ => True) v463 x5_2) ∧ Aside0 (Below w.heap.size w w'))
   case atStart => exact ⟨(x5_3), (wrap64 ((a1.size : Int) - 1)), qF, H', ⟨Nat.le_refl _⟩, ⟨qR HO_5.out⟩, ⟨qB HB.out⟩⟩
   case round =>
    clear H'
    obtain ⟨x5_2, x8_2, rfl, HA, HK2, HO_5, HB⟩ := hrel
    cases gk with
    | zero => exact absurd HA.out (by simp [impl_isSeed.l2])
    | succ k2 =>
     have H := HA.out
     clear HA
     simp only [impl_isSeed.l2] at H
     by_cases c21 : x8_2 > 0
     ·
      rw [if_pos c21] at H
      have c21b0 : decide (0 < x8_2) = true := decide_eq_true c21
      clear c21
      by_cases c22 : 0 ≤ x8_2
      ·
       rw [if_pos c22] at H
       have c22b0 := eq_true c22
       have c22b1 : decide (0 ≤ x8_2) = true := decide_eq_true c22
       clear c22
       by_cases c23 : x8_2 ≤ (a1.size : Int)
       ·
        rw [if_pos c23] at H
        have c23b0 := eq_true c23
        have c23b1 : decide (x8_2 ≤ (a1.size : Int)) = true := decide_eq_true c23
        clear c23
        replace H := Option.bind_eq_some_iff.mp H
        obtain ⟨t468, A240, H⟩ := H
        replace H : (if t468 = true then (impl_isSeed.l3 k2 a0 x5_2 x8_2 0) else (impl_isSeed.l2 k2 a0 a1 x5_2 (wrap64 (x8_2 - 1)))) = some r := H
        have A24 := Aside0.mk A240
        clear A240
        by_cases c25 : t468 = true
        ·
         subst c25
         have H1 : (impl_isSeed.l3 k2 a0 x5_2 x8_2 0) = some r := by rw [if_pos rfl] at H; exact H
         clear H
         have H := H1
         clear H1
         have H' := Aside0.mk H
         clear H
         go_wp2_with (first | ((with_reducible refine gate_callee (f := 62) rfl ?_); refine goesL_ (some 48) rfl rfl Try.func62 (by kernel_rfl) rfl #[.string a0, .string (a1.extract 0 (x8_2 : Int).toNat)] rfl qV ?_; (with_reducible refine (strings_HasSuffix.calls a0 (a1.extract 0 (x8_2 : Int).toNat) true _ A24.out).mono ?_); rintro e w' ⟨rfl, ⟨nd, rfl⟩⟩; refine ⟨_, rfl, ?_⟩))
         go_loopg [50] k2 (fun kq v50 w' => ∃ (x5_3 : List Bool) (x50_3 : Int), v50 = .int .i64 x50_3 ∧ Aside0 (impl_isSeed.l3 kq a0 x5_3 x8_2 x50_3 = some r) ∧ Aside0 (kq ≤ k2) ∧ Aside0 (Kd.R Kd.bool 4 w' w.heap.size (fun _ => True) v463 x5_3) ∧ Aside0 (Below w.heap.size w w'))
         case atStart => exact ⟨(x5_2), (0), qF, H', ⟨Nat.le_refl _⟩, ⟨qR HO_5.out⟩, ⟨qB HB.out⟩⟩
         case round =>
          clear H'
          obtain ⟨x5_3, x50_3, rfl, HA, HK3, HO_5, HB⟩ := hrel
          cases gk with
          | zero => exact absurd HA.out (by simp [impl_isSeed.l3])
          | succ k3 =>
           have H := HA.out
           clear HA
           simp only [impl_isSeed.l3] at H
           by_cases c26 : x50_3 < x8_2
           ·
            rw [if_pos c26] at H
            have c26b0 : decide (x50_3 < x8_2) = true := decide_eq_true c26
            clear c26
            obtain ⟨ji27, hji27⟩ : ∃ j_ : Int, (wrap64 ((wrap64 ((a0.size : Int) - 1)) - x50_3)) = j_ := ⟨_, rfl⟩
            replace H : (if 0 ≤ (ji27) then (if (ji27) < (x5_3.length : Int) then (impl_isSeed.l3 k3 a0 (x5_3.set ((ji27) : Int).toNat true) x8_2 (wrap64 (x50_3 + 1))) else (none)) else (none)) = some r := by first | (rw [hji27] at H; exact H) | (simp only [hji27] at H ⊢; exact H)
            have hji27w : (IntKind.i64.wrap ((wrap64 ((a0.size : Int) - 1)) - x50_3)) = ji27 := (i64_w _).trans hji27
            by_cases c28 : 0 ≤ (ji27)
            ·
             rw [if_pos c28] at H
             have c28b0 : decide (0 ≤ (ji27)) = true := decide_eq_true c28
             clear c28
             by_cases c29 : (ji27) < (x5_3.length : Int)
             ·
              rw [if_pos c29] at H
              have c29b0 : decide ((ji27) < (x5_3.length : Int)) = true := decide_eq_true c29
              clear c29
              obtain ⟨y469, hy469⟩ : ∃ y_ : List Bool, y_ = (x5_3.set ((ji27) : Int).toNat true) := ⟨_, rfl⟩
              replace H : (impl_isSeed.l3 k3 a0 y469 x8_2 (wrap64 (x50_3 + 1))) = some r := by first | (rw [hy469]; with_reducible exact H) | (have H2_ := (Option.bind_some _ _).symm.trans H; rw [hy469]; with_reducible exact H2_) | (have H2_ := (Option.bind_some _ _).symm.trans H; with_reducible exact H2_) | with_reducible exact H | (rw [hy469]; exact H) | exact H
              have Ny469 := Aside0.mk hy469
              clear hy469
              have H' := Aside0.mk H
              clear H
              have p30 : 0 ≤ ((ji27) : Int) := of_decide_eq_true (by first | (with_reducible assumption) | assumption)
              have q30 : ((ji27) : Int) < ((x5_3.length : Int) : Int) := of_decide_eq_true (by first | (with_reducible assumption) | assumption)
              obtain ⟨go30, co30, eo30, gb30, gl30, cl30, HG30⟩ := Kd.R_form HO_5.out (by omega)
              (first | cases eo30 | (injection eo30 with ea_ en_ ec_; (first | subst ea_ | (injection ea_ with ea_; subst ea_)); subst ec_; clear en_))
              have GB30 := Aside0.mk gb30
              have GG30 := Aside0.mk HG30
              clear gb30 gl30 HG30
              obtain ⟨hx30_0, hf30_0⟩ := Kd.R_celln false HO_5.out ((ji27) : Int) p30 q30
              replace p30 := eq_true p30
              replace q30 := eq_true q30
              have HP31 := Kd.R_putg HO_5.out ((ji27) : Int) true
              go_wp2_with (first | ((with_reducible refine gate_store (t := 4) (p := 59) rfl ?_); refine store_event (t := 4) (p := 59) (v := ?vo_w32) (w1 := (wr.setCell ⟨go30, ((ji27) : Int).toNat, none⟩ (.bool true))) ?hg ?ho ?hn ?hr ?_; (case ho => rfl); (case hg => rfl); (case hn => rfl); (case hr => first | (go_simp; done) | (go_simp; rfl)); intro w32 hw; have hg : wr.grownBy w32 (some go30) := (by rw [hw]; exact HP31.2); have hp_ : Kd.R Kd.bool 4 w32 w.heap.size (fun _ => True) (.slice (some ⟨go30, 0, none⟩) x5_3.length co30) y469 := (by rw [hw, Ny469.out]; exact HP31.1); clear HP31; have n0_ := Aside0.mk (hp_); have n1_ := Aside0.mk ((by rw [hw]; exact below_set (HB.out) GB30.out : Below w.heap.size w w32)); clear HO_5; clear HB; have HO_5 := n0_; have HB := n1_; clear n0_ n1_; clear hg hw hp_))
              go_roundg k3
              case measure => have := HJ3.out; have := HK2.out; have := HK3.out; omega
              case rel => exact ⟨(y469), (wrap64 (x50_3 + 1)), qF, H', ⟨by have := HJ3.out; have := HK2.out; have := HK3.out; omega⟩, ⟨qR HO_5.out⟩, ⟨qB HB.out⟩⟩
             ·
              rw [if_neg c29] at H
              exact absurd H (by simp)
            ·
             rw [if_neg c28] at H
             exact absurd H (by simp)
           ·
            rw [if_neg c26] at H
            have c26b0 : decide (x50_3 < x8_2) = false := decide_eq_false c26
            clear c26
            replace H := Option.bind_eq_some_iff.mp H
            obtain ⟨t470, A330, H⟩ := H
            replace H : (some (!t470)) = some r := H
            have A33 := Aside0.mk A330
            clear A330
            obtain rfl := Option.some.inj H
            obtain ⟨Ao34, co34, eo34⟩ := Kd.R_slice HO_5.out
            subst eo34
            go_wp2_with (first | ((with_reducible refine gate_callee (f := 60) rfl ?_); refine goesL_ (some 62) rfl rfl Try.func60 (by kernel_rfl) rfl #[.slice Ao34 x5_3.length co34, .bool false] rfl qV ?_; (with_reducible refine (slices_Contains_bool_bool.calls k3 _ _ x5_3 false t470 _ ?side1 ?side2 A33.out).mono ?_); (case side1 => exact qC (Kd.R_reads' HO_5.out).2.2); (case side2 => exact (Kd.R_reads' HO_5.out).2.1); rintro e w' ⟨rfl, ⟨nd, rfl⟩⟩; refine ⟨_, rfl, ?_⟩))
            go_ret
            exact ⟨qE, qB HB.out⟩
        ·
         replace c25 := Bool.eq_false_iff.mpr c25
         subst c25
         have H1 : (impl_isSeed.l2 k2 a0 a1 x5_2 (wrap64 (x8_2 - 1))) = some r := by rw [if_neg (show ¬ (false = true) by decide)] at H; exact H
         clear H
         have H := H1
         clear H1
         have H' := Aside0.mk H
         clear H
         go_wp2_with (first | ((with_reducible refine gate_callee (f := 62) rfl ?_); refine goesL_ (some 48) rfl rfl Try.func62 (by kernel_rfl) rfl #[.string a0, .string (a1.extract 0 (x8_2 : Int).toNat)] rfl qV ?_; (with_reducible refine (strings_HasSuffix.calls a0 (a1.extract 0 (x8_2 : Int).toNat) false _ A24.out).mono ?_); rintro e w' ⟨rfl, ⟨nd, rfl⟩⟩; refine ⟨_, rfl, ?_⟩))
         go_roundg k2
         case measure => have := HJ3.out; have := HK2.out; omega
         case rel => exact ⟨(x5_2), (wrap64 (x8_2 - 1)), qF, H', ⟨by have := HJ3.out; have := HK2.out; omega⟩, ⟨qR HO_5.out⟩, ⟨qB HB.out⟩⟩
       ·
        rw [if_neg c23] at H
        exact absurd H (by simp)
      ·
       rw [if_neg c22] at H
       exact absurd H (by simp)
     ·
      rw [if_neg c21] at H
      have c21b0 : decide (0 < x8_2) = false := decide_eq_false c21
      clear c21
      replace H := Option.bind_eq_some_iff.mp H
      obtain ⟨t467, A350, H⟩ := H
      replace H : (some (!t467)) = some r := H
      have A35 := Aside0.mk A350
      clear A350
      obtain rfl := Option.some.inj H
      obtain ⟨Ao36, co36, eo36⟩ := Kd.R_slice HO_5.out
      subst eo36
      go_wp2_with (first | ((with_reducible refine gate_callee (f := 60) rfl ?_); refine goesL_ (some 62) rfl rfl Try.func60 (by kernel_rfl) rfl #[.slice Ao36 x5_2.length co36, .bool false] rfl qV ?_; (with_reducible refine (slices_Contains_bool_bool.calls k2 _ _ x5_2 false t467 _ ?side1 ?side2 A35.out).mono ?_); (case side1 => exact qC (Kd.R_reads' HO_5.out).2.2); (case side2 => exact (Kd.R_reads' HO_5.out).2.1); rintro e w' ⟨rfl, ⟨nd, rfl⟩⟩; refine ⟨_, rfl, ?_⟩))
      go_ret
      exact ⟨qE, qB HB.out⟩

end Go.Proofs.Ytoadancbpgignaa.PF
