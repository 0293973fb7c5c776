-- an own text, written by a program of this place (wip/tools)
import Derived.Test.YtcfphjjdbccnoaaGreatPFx0
import Derived.Test.YtcfphjjdbccnoaaGreatPFx1
import Derived.Test.YtcfphjjdbccnoaaGreatPFGivE
import Derived.Test.YtcfphjjdbccnoaaGreatPFGivA
namespace Go.Proofs.YtcfphjjdbccnoaaGreat.PF
open Go.RowKit Go.Proofs.YtcfphjjdbccnoaaGreatW.PrintWords Go.Proofs.YtcfphjjdbccnoaaGreatW.PrintLast Go.Proofs.YtcfphjjdbccnoaaGreatW.PrintMore
attribute [local go_sem] max2_int min2_int max_two min_two max_three min_three max_four min_four   -- for this text's walks alone
set_option linter.unusedVariables false
set_option linter.unusedSimpArgs false

/-! ### impl_isSeed: function 36 -/
mutual
def impl_isSeed.j2 : Nat → ByteArray → ByteArray → List Bool → Option (Bool)
 | 0, _, _, _ => none
 | k + 1, x0, x1, x5 => impl_isSeed.l2 k x0 x1 x5 (wrap64 ((x1.size : Int) - 1))
def impl_isSeed.l2 : Nat → ByteArray → ByteArray → List Bool → Int → Option (Bool)
 | 0, _, _, _, _ => none
 | k + 1, x0, x1, x5, x8 => if x8 > 0 then (if 0 ≤ x8 then (if x8 ≤ (x1.size : Int) then ((strings_HasSuffix.f x0 (x1.extract 0 (x8 : Int).toNat)).bind fun t353 => (if t353 = true then (impl_isSeed.l3 k x0 x5 x8 0) else (impl_isSeed.l2 k x0 x1 x5 (wrap64 (x8 - 1))))) else (none)) else (none)) else ((slices_Contains_bool_bool.f k x5 false).bind fun t352 => (some (!t352)))
def impl_isSeed.l3 : Nat → ByteArray → List Bool → Int → Int → Option (Bool)
 | 0, _, _, _, _ => none
 | k + 1, x0, x5, x49, x50 => if x50 < x49 then (if 0 ≤ (wrap64 ((wrap64 ((x0.size : Int) - 1)) - x50)) then (if (wrap64 ((wrap64 ((x0.size : Int) - 1)) - x50)) < (x5.length : Int) then (impl_isSeed.l3 k x0 (x5.set ((wrap64 ((wrap64 ((x0.size : Int) - 1)) - x50)) : Int).toNat true) x49 (wrap64 (x50 + 1))) else (none)) else (none)) else ((slices_Contains_bool_bool.f k x5 false).bind fun t355 => (some (!t355)))
def impl_isSeed.l0 : Nat → ByteArray → ByteArray → List Bool → Int → Option (Bool)
 | 0, _, _, _, _ => none
 | k + 1, x0, x1, x5, x6 => if x6 > 0 then (if 0 ≤ (wrap64 ((x1.size : Int) - x6)) then (if (wrap64 ((x1.size : Int) - x6)) ≤ (x1.size : Int) then ((strings_HasPrefix.f x0 (x1.extract ((wrap64 ((x1.size : Int) - x6)) : Int).toNat x1.size)).bind fun t350 => (if t350 = true then (impl_isSeed.l1 k x0 x1 x5 x6 0) else (impl_isSeed.l0 k x0 x1 x5 (wrap64 (x6 - 1))))) else (none)) else (none)) else (impl_isSeed.j2 k x0 x1 x5)
def impl_isSeed.l1 : Nat → ByteArray → ByteArray → List Bool → Int → Int → Option (Bool)
 | 0, _, _, _, _, _ => none
 | k + 1, x0, x1, x5, x29, x30 => if x30 < x29 then (if 0 ≤ x30 then (if x30 < (x5.length : Int) then (impl_isSeed.l1 k x0 x1 (x5.set (x30 : Int).toNat true) x29 (wrap64 (x30 + 1))) else (none)) else (none)) else (impl_isSeed.j2 k x0 x1 x5)
end
def impl_isSeed.f (k : Nat) (a0 : ByteArray) (a1 : ByteArray) : Option (Bool) := (impl_covered.f k a0 (([a1] : List ByteArray))).bind fun t347 => (impl_isSeed.l0 k a0 a1 t347 (wrap64 ((a1.size : Int) - 1)))
theorem impl_isSeed.mono_l : ∀ k, (∀ y0 y1 y2, LeO (impl_isSeed.j2 k y0 y1 y2) (impl_isSeed.j2 (k + 1) y0 y1 y2)) ∧ (∀ y0 y1 y2 y3, LeO (impl_isSeed.l2 k y0 y1 y2 y3) (impl_isSeed.l2 (k + 1) y0 y1 y2 y3)) ∧ (∀ y0 y1 y2 y3, LeO (impl_isSeed.l3 k y0 y1 y2 y3) (impl_isSeed.l3 (k + 1) y0 y1 y2 y3)) ∧ (∀ y0 y1 y2 y3, LeO (impl_isSeed.l0 k y0 y1 y2 y3) (impl_isSeed.l0 (k + 1) y0 y1 y2 y3)) ∧ (∀ y0 y1 y2 y3 y4, LeO (impl_isSeed.l1 k y0 y1 y2 y3 y4) (impl_isSeed.l1 (k + 1) y0 y1 y2 y3 y4))
 | 0 => ⟨fun _ _ _ r h => by simp [impl_isSeed.j2] at h, fun _ _ _ _ r h => by simp [impl_isSeed.l2] at h, fun _ _ _ _ r h => by simp [impl_isSeed.l3] at h, fun _ _ _ _ r h => by simp [impl_isSeed.l0] at h, fun _ _ _ _ _ r h => by simp [impl_isSeed.l1] at h⟩
 | k + 1 => by
  obtain ⟨ih0, ih1, ih2, ih3, ih4⟩ := impl_isSeed.mono_l k
  refine ⟨?_, ?_, ?_, ?_, ?_⟩
  all_goals intros
  all_goals first | unfold impl_isSeed.j2 | unfold impl_isSeed.l2 | unfold impl_isSeed.l3 | unfold impl_isSeed.l0 | unfold impl_isSeed.l1
  all_goals with_reducible repeat' first
  | exact ih0 _ _ _
  | exact ih1 _ _ _ _
  | exact ih2 _ _ _ _
  | exact ih3 _ _ _ _
  | exact ih4 _ _ _ _ _
  | exact impl_covered.mono _ _ _
  | exact slices_Contains_bool_bool.mono _ _ _
  | exact LeO.refl _
  | exact LeO.none _
  | refine LeO.ite ?_ ?_
  | refine LeO.bind ?_ (fun _ => ?_)
theorem impl_isSeed.mono : ∀ a0 a1 k, LeO (impl_isSeed.f k a0 a1) (impl_isSeed.f (k + 1) a0 a1) := by
 intro a0 a1 k
 obtain ⟨ih0, ih1, ih2, ih3, ih4⟩ := impl_isSeed.mono_l k
 unfold impl_isSeed.f
 with_reducible repeat' first
   | exact ih0 _ _ _
   | exact ih1 _ _ _ _
   | exact ih2 _ _ _ _
   | exact ih3 _ _ _ _
   | exact ih4 _ _ _ _ _
   | exact impl_covered.mono _ _ _
   | exact slices_Contains_bool_bool.mono _ _ _
   | exact LeO.refl _
   | exact LeO.none _
   | refine LeO.ite ?_ ?_
   | refine LeO.bind ?_ (fun _ => ?_)
set_option maxHeartbeats 8000000 in
set_option maxRecDepth 100000 in
theorem impl_isSeed.calls (k : Nat) (a0 : ByteArray) (a1 : ByteArray) (r : Bool) (w : World) (h : impl_isSeed.f k a0 a1 = some r) :
  Calls Tryz.prog 36 #[.string a0, .string a1] w fun e w' => e = .returned (.bool r) ∧ Below w.heap.size w w' := by
 have HB := Aside0.mk (Below.refl w.heap.size w)
 have H : ((impl_covered.f k a0 (([a1] : List ByteArray))).bind fun t347 => (impl_isSeed.l0 k a0 a1 t347 (wrap64 ((a1.size : Int) - 1)))) = some r := h
 clear h
 obtain ⟨y344, hy344⟩ : ∃ y_ : List ByteArray, y_ = (([a1] : List ByteArray)) := ⟨_, rfl⟩
 replace H : ((impl_covered.f k a0 y344).bind fun t347 => (impl_isSeed.l0 k a0 a1 t347 (wrap64 ((a1.size : Int) - 1)))) = some r := by first | (rw [hy344]; with_reducible exact H) | (have H2_ := (Option.bind_some _ _).symm.trans H; rw [hy344]; with_reducible exact H2_) | (have H2_ := (Option.bind_some _ _).symm.trans H; with_reducible exact H2_) | with_reducible exact H | (rw [hy344]; exact H) | exact H
 have Ny344 := Aside0.mk hy344
 clear hy344
 obtain ⟨t347, A3, H⟩ := qN H
 try dsimp only at H
 have HC4 := Aside0.mk H
 clear H
 go_enter Tryz.func36, Tryz.ntmps36
 go_upto_block 0 with (first | ((with_reducible refine gate_dst (N := 12) rfl ?_); refine Kd.R_lit Kd.string _ 9 ?hg (N := 12) ?hd (xs := ([a1] : List ByteArray)) (inner := [.string a1]) (ok := fun _ => True) (okp := fun _ => True) ?hr ?hp (fun _ hk => hk) trivial (Below.refl _ _) (Nat.le_refl _) (by simp) ?_; (case hd => rfl); (case hg => rfl); (case hr => first | (go_simp; done) | (go_simp; rfl)); (case hp => exact (Reps.one (show Kd.M Kd.string _ _ _ a1 [.string a1] from rfl) (Reps.none _ _))); intro v345 w5 ho6 hb hg_ hnew_; clear hg_ hnew_; (first | rw [← Ny344.out] at ho6 | (simp only [Int.reduceToNat] at ho6; rw [← Ny344.out] at ho6)); have HO346 := Aside0.mk (Kd.R_lower ho6 (below_size (qB HB.out))); replace HB := Aside0.mk (below_step (qB HB.out) hb); clear hb ho6; obtain ⟨Ao7, co7, eo7⟩ := Kd.R_slice HO346.out; subst eo7) | ((with_reducible refine gate_callee (f := 41) rfl ?_); refine goesL_ (some 13) rfl rfl Tryz.func41 (by kernel_rfl) rfl #[.string a0, .slice Ao7 y344.length co7] rfl qV ?_; (with_reducible refine (impl_covered.calls k a0 _ _ y344 t347 _ ?side1 ?side2 A3.out).mono ?_); (case side1 => exact qC (Kd.R_reads' HO346.out).2.2); (case side2 => exact (Kd.R_reads' HO346.out).2.1); rintro e w8 ⟨v348, rfl, ho0, hb⟩; refine ⟨_, rfl, ?_⟩; replace HO346 := Aside0.mk (Kd.R_below (qR HO346.out) hb); have HO349 := Aside0.mk (Kd.R_lower ho0 (below_size (qB HB.out))); replace HB := Aside0.mk (below_step (qB HB.out) hb)))
 (try simp only [Act.put, List.setIfInBounds_toArray, List.set_cons_zero, List.set_cons_succ])
 go_cut [] (fun wc => ∃ (kq : Nat) (x5_3 : List Bool), Aside0 (impl_isSeed.j2 kq a0 a1 x5_3 = some r) ∧ Aside0 (kq ≤ k) ∧ Aside0 (Kd.R Kd.bool 4 wc w.heap.size (fun _ => True) v348 x5_3) ∧ Aside0 (Below w.heap.size w wc))
 case first =>
  have H := HC4.out
  clear HC4
  have H' := Aside0.mk H
  clear H
  go_wp2
  go_loopg [6] k (fun kq v6 w' => ∃ (x5_1 : List Bool) (x6_1 : Int), v6 = .int .i64 x6_1 ∧ Aside0 (impl_isSeed.l0 kq a0 a1 x5_1 x6_1 = some r) ∧ Aside0 (kq ≤ k) ∧ Aside0 (Kd.R Kd.bool 4 w' w.heap.size (fun _ => True) v348 x5_1) ∧ Aside0 (Below w.heap.size w w'))
  case atStart => exact ⟨(t347), (wrap64 ((a1.size : Int) - 1)), qF, H', ⟨Nat.le_refl _⟩, ⟨qR HO349.out⟩, ⟨qB HB.out⟩⟩
  case round =>
   clear H'
   obtain ⟨x5_1, x6_1, rfl, HA, HK1, HO_5, HB⟩ := hrel
   cases gk with
   | zero => exact absurd HA.out (by simp [impl_isSeed.l0])
   | succ k1 =>
    have H := HA.out
    clear HA
    simp only [impl_isSeed.l0] at H
    by_cases c9 : x6_1 > 0
    rotate_left
    ·
     rw [if_neg c9] at H
     have c9b0 : decide (0 < x6_1) = false := decide_eq_false c9
     clear c9
     (first | rw [c9b0] | (simp only [i64_w, i32_w]; rw [c9b0]) | skip)
     have H' := Aside0.mk H
     clear H
     go_wp2
     go_meet
     case rel => exact ⟨_, (x5_1), H', ⟨by have := HK1.out; first | omega | exact Nat.le_refl _⟩, ⟨qR HO_5.out⟩, ⟨qB HB.out⟩⟩
    rw [if_pos c9] at H
    have c9b0 : decide (0 < x6_1) = true := decide_eq_true c9
    clear c9
    (first | rw [c9b0] | (simp only [i64_w, i32_w]; rw [c9b0]) | skip)
    obtain ⟨ji10, hji10⟩ : ∃ j_ : Int, (wrap64 ((a1.size : Int) - x6_1)) = j_ := ⟨_, rfl⟩
    replace H : (if 0 ≤ (ji10) then (if (ji10) ≤ (a1.size : Int) then ((strings_HasPrefix.f a0 (a1.extract ((ji10) : Int).toNat a1.size)).bind fun t350 => (if t350 = true then (impl_isSeed.l1 k1 a0 a1 x5_1 x6_1 0) else (impl_isSeed.l0 k1 a0 a1 x5_1 (wrap64 (x6_1 - 1))))) else (none)) else (none)) = some r := by first | (rw [hji10] at H; exact H) | (simp only [hji10] at H ⊢; exact H)
    have hji10w : (IntKind.i64.wrap ((a1.size : Int) - x6_1)) = ji10 := (i64_w _).trans hji10
    by_cases c11 : 0 ≤ (ji10)
    rotate_left
    ·
     rw [if_neg c11] at H
     exact absurd H (by simp)
    rw [if_pos c11] at H
    have c11b0 := eq_true c11
    have c11b1 : decide (0 ≤ (ji10)) = true := decide_eq_true c11
    clear c11
    by_cases c12 : (ji10) ≤ (a1.size : Int)
    rotate_left
    ·
     rw [if_neg c12] at H
     exact absurd H (by simp)
    rw [if_pos c12] at H
    have c12b0 := eq_true c12
    have c12b1 : decide ((ji10) ≤ (a1.size : Int)) = true := decide_eq_true c12
    clear c12
    obtain ⟨t350, A13, H⟩ := qN H
    try dsimp only at H
    by_cases c14 : t350 = true
    rotate_left
    ·
     replace c14 := Bool.eq_false_iff.mpr c14
     subst c14
     rw [if_neg (show ¬ (false = true) by decide)] at H
     have H' := Aside0.mk H
     clear H
     go_wp2_with (first | ((with_reducible refine gate_callee (f := 68) rfl ?_); refine goesL_ (some 28) rfl rfl Tryz.func68 (by kernel_rfl) rfl #[.string a0, .string (a1.extract ((ji10) : Int).toNat a1.size)] rfl (by (try simp only [List.map_toArray, List.map_cons, List.map_nil]); first | done | (simp only [hji10]; rfl) | rfl | (simp only [List.length_drop, List.length_take]; rfl)) ?_; (with_reducible refine (strings_HasPrefix.calls a0 (a1.extract ((ji10) : Int).toNat a1.size) false _ A13.out).mono ?_); rintro e w' ⟨rfl, ⟨nd, rfl⟩⟩; refine ⟨_, rfl, ?_⟩))
     go_roundg k1
     case measure => have := HK1.out; omega
     case rel => exact ⟨(x5_1), (wrap64 (x6_1 - 1)), qF, H', ⟨by have := HK1.out; omega⟩, ⟨qR HO_5.out⟩, ⟨qB HB.out⟩⟩
    subst c14
    rw [if_pos rfl] at H
    have H' := Aside0.mk H
    clear H
    go_wp2_with (first | ((with_reducible refine gate_callee (f := 68) rfl ?_); refine goesL_ (some 28) rfl rfl Tryz.func68 (by kernel_rfl) rfl #[.string a0, .string (a1.extract ((ji10) : Int).toNat a1.size)] rfl (by (try simp only [List.map_toArray, List.map_cons, List.map_nil]); first | done | (simp only [hji10]; rfl) | rfl | (simp only [List.length_drop, List.length_take]; rfl)) ?_; (with_reducible refine (strings_HasPrefix.calls a0 (a1.extract ((ji10) : Int).toNat a1.size) true _ A13.out).mono ?_); rintro e w' ⟨rfl, ⟨nd, rfl⟩⟩; refine ⟨_, rfl, ?_⟩))
    go_loopg [30] k1 (fun kq v30 w' => ∃ (x5_2 : List Bool) (x30_2 : Int), v30 = .int .i64 x30_2 ∧ Aside0 (impl_isSeed.l1 kq a0 a1 x5_2 x6_1 x30_2 = some r) ∧ Aside0 (kq ≤ k1) ∧ Aside0 (Kd.R Kd.bool 4 w' w.heap.size (fun _ => True) v348 x5_2) ∧ Aside0 (Below w.heap.size w w'))
    case atStart => exact ⟨(x5_1), (0), qF, H', ⟨Nat.le_refl _⟩, ⟨qR HO_5.out⟩, ⟨qB HB.out⟩⟩
    case round =>
     clear H'
     obtain ⟨x5_2, x30_2, rfl, HA, HK2, HO_5, HB⟩ := hrel
     cases gk with
     | zero => exact absurd HA.out (by simp [impl_isSeed.l1])
     | succ k2 =>
      have H := HA.out
      clear HA
      simp only [impl_isSeed.l1] at H
      by_cases c15 : x30_2 < x6_1
      rotate_left
      ·
       rw [if_neg c15] at H
       have c15b0 : decide (x30_2 < x6_1) = false := decide_eq_false c15
       clear c15
       have H' := Aside0.mk H
       clear H
       go_wp2
       go_meet
       case rel => exact ⟨_, (x5_2), H', ⟨by have := HK1.out; have := HK2.out; first | omega | exact Nat.le_refl _⟩, ⟨qR HO_5.out⟩, ⟨qB HB.out⟩⟩
      rw [if_pos c15] at H
      have c15b0 : decide (x30_2 < x6_1) = true := decide_eq_true c15
      clear c15
      by_cases c16 : 0 ≤ x30_2
      rotate_left
      ·
       rw [if_neg c16] at H
       exact absurd H (by simp)
      rw [if_pos c16] at H
      have c16b0 : decide (0 ≤ x30_2) = true := decide_eq_true c16
      clear c16
      by_cases c17 : x30_2 < (x5_2.length : Int)
      rotate_left
      ·
       rw [if_neg c17] at H
       exact absurd H (by simp)
      rw [if_pos c17] at H
      have c17b0 : decide (x30_2 < (x5_2.length : Int)) = true := decide_eq_true c17
      clear c17
      obtain ⟨y351, hy351⟩ : ∃ y_ : List Bool, y_ = (x5_2.set (x30_2 : Int).toNat true) := ⟨_, rfl⟩
      replace H : (impl_isSeed.l1 k2 a0 a1 y351 x6_1 (wrap64 (x30_2 + 1))) = some r := by first | (rw [hy351]; with_reducible exact H) | (have H2_ := (Option.bind_some _ _).symm.trans H; rw [hy351]; with_reducible exact H2_) | (have H2_ := (Option.bind_some _ _).symm.trans H; with_reducible exact H2_) | with_reducible exact H | (rw [hy351]; exact H) | exact H
      have Ny351 := Aside0.mk hy351
      clear hy351
      have H' := Aside0.mk H
      clear H
      have p18 : 0 ≤ (x30_2 : Int) := of_decide_eq_true (by first | (with_reducible assumption) | assumption)
      have q18 : (x30_2 : Int) < ((x5_2.length : Int) : Int) := of_decide_eq_true (by first | (with_reducible assumption) | assumption)
      obtain ⟨go18, co18, eo18, gb18, gl18, cl18, HG18⟩ := Kd.R_form HO_5.out (by omega)
      (first | cases eo18 | (injection eo18 with ea_ en_ ec_; (first | subst ea_ | (injection ea_ with ea_; subst ea_)); subst ec_; clear en_))
      have GB18 := Aside0.mk gb18
      have GG18 := Aside0.mk HG18
      clear gb18 gl18 HG18
      obtain ⟨hx18_0, hf18_0⟩ := Kd.R_celln false HO_5.out (x30_2 : Int) p18 q18
      replace p18 := eq_true p18
      replace q18 := eq_true q18
      have HP19 := Kd.R_putg HO_5.out (x30_2 : Int) true
      go_wp2_with (first | ((with_reducible refine gate_store (t := 4) (p := 35) rfl ?_); refine store_event (t := 4) (p := 35) (v := ?vo_w20) (w1 := (wr.setCell ⟨go18, (x30_2 : Int).toNat, none⟩ (.bool true))) ?hg ?ho ?hn ?hr ?_; (case ho => rfl); (case hg => rfl); (case hn => rfl); (case hr => first | (go_simp; done) | (go_simp; rfl)); intro w20 hw; have hg : wr.grownBy w20 (some go18) := (by rw [hw]; exact HP19.2); have hp_ : Kd.R Kd.bool 4 w20 w.heap.size (fun _ => True) (.slice (some ⟨go18, 0, none⟩) x5_2.length co18) y351 := (by rw [hw, Ny351.out]; exact HP19.1); clear HP19; replace HO_5 := Aside0.mk (hp_); replace HB := Aside0.mk ((by rw [hw]; exact below_set (HB.out) GB18.out : Below w.heap.size w w20)); clear hg hw hp_))
      go_roundg k2
      case measure => have := HK1.out; have := HK2.out; omega
      case rel => exact ⟨(y351), (wrap64 (x30_2 + 1)), qF, H', ⟨by have := HK1.out; have := HK2.out; omega⟩, ⟨qR HO_5.out⟩, ⟨qB HB.out⟩⟩
 case rest =>
  clear HC4
  obtain ⟨kq, x5_3, HA, HJ3, HO_5, HB⟩ := hcut
  cases kq with
  | zero => exact absurd HA.out (by simp [impl_isSeed.j2])
  | succ kj3 =>
   have H := HA.out
   clear HA
   simp only [impl_isSeed.j2] at H
   have H' := Aside0.mk H
   clear H
   go_wp2
   go_loopg [8] kj3 (fun kq v8 w' => ∃ (x5_2 : List Bool) (x8_2 : Int), v8 = .int .i64 x8_2 ∧ Aside0 (impl_isSeed.l2 kq a0 a1 x5_2 x8_2 = some r) ∧ Aside0 (kq ≤ kj3) ∧ Aside0 (Kd.R Kd.bool 4 w' w.heap.size (fun _ => True) v348 x5_2) ∧ Aside0 (Below w.heap.size w w'))
   case atStart => exact ⟨(x5_3), (wrap64 ((a1.size : Int) - 1)), qF, H', ⟨Nat.le_refl _⟩, ⟨qR HO_5.out⟩, ⟨qB HB.out⟩⟩
   case round =>
    clear H'
    obtain ⟨x5_2, x8_2, rfl, HA, HK2, HO_5, HB⟩ := hrel
    cases gk with
    | zero => exact absurd HA.out (by simp [impl_isSeed.l2])
    | succ k2 =>
     have H := HA.out
     clear HA
     simp only [impl_isSeed.l2] at H
     by_cases c21 : x8_2 > 0
     rotate_left
     ·
      rw [if_neg c21] at H
      have c21b0 : decide (0 < x8_2) = false := decide_eq_false c21
      clear c21
      obtain ⟨t352, A35, H⟩ := qN H
      try dsimp only at H
      obtain rfl := Option.some.inj H
      obtain ⟨Ao36, co36, eo36⟩ := Kd.R_slice HO_5.out
      subst eo36
      go_wp2_with (first | ((with_reducible refine gate_callee (f := 69) rfl ?_); refine goesL_ (some 62) rfl rfl Tryz.func69 (by kernel_rfl) rfl #[.slice Ao36 x5_2.length co36, .bool false] rfl qV ?_; (with_reducible refine (slices_Contains_bool_bool.calls k2 _ _ x5_2 false t352 _ ?side1 ?side2 A35.out).mono ?_); (case side1 => exact qC (Kd.R_reads' HO_5.out).2.2); (case side2 => exact (Kd.R_reads' HO_5.out).2.1); rintro e w' ⟨rfl, ⟨nd, rfl⟩⟩; refine ⟨_, rfl, ?_⟩))
      go_ret
      exact ⟨qE, qB HB.out⟩

     rw [if_pos c21] at H
     have c21b0 : decide (0 < x8_2) = true := decide_eq_true c21
     clear c21
     by_cases c22 : 0 ≤ x8_2
     rotate_left
     ·
      rw [if_neg c22] at H
      exact absurd H (by simp)
     rw [if_pos c22] at H
     have c22b0 := eq_true c22
     have c22b1 : decide (0 ≤ x8_2) = true := decide_eq_true c22
     clear c22
     by_cases c23 : x8_2 ≤ (a1.size : Int)
     rotate_left
     ·
      rw [if_neg c23] at H
      exact absurd H (by simp)
     rw [if_pos c23] at H
     have c23b0 := eq_true c23
     have c23b1 : decide (x8_2 ≤ (a1.size : Int)) = true := decide_eq_true c23
     clear c23
     obtain ⟨t353, A24, H⟩ := qN H
     try dsimp only at H
     by_cases c25 : t353 = true
     rotate_left
     ·
      replace c25 := Bool.eq_false_iff.mpr c25
      subst c25
      rw [if_neg (show ¬ (false = true) by decide)] at H
      have H' := Aside0.mk H
      clear H
      go_wp2_with (first | ((with_reducible refine gate_callee (f := 40) rfl ?_); refine goesL_ (some 48) rfl rfl Tryz.func40 (by kernel_rfl) rfl #[.string a0, .string (a1.extract 0 (x8_2 : Int).toNat)] rfl qV ?_; (with_reducible refine (strings_HasSuffix.calls a0 (a1.extract 0 (x8_2 : Int).toNat) false _ A24.out).mono ?_); rintro e w' ⟨rfl, ⟨nd, rfl⟩⟩; refine ⟨_, rfl, ?_⟩))
      go_roundg k2
      case measure => have := HJ3.out; have := HK2.out; omega
      case rel => exact ⟨(x5_2), (wrap64 (x8_2 - 1)), qF, H', ⟨by have := HJ3.out; have := HK2.out; omega⟩, ⟨qR HO_5.out⟩, ⟨qB HB.out⟩⟩
     subst c25
     rw [if_pos rfl] at H
     have H' := Aside0.mk H
     clear H
     go_wp2_with (first | ((with_reducible refine gate_callee (f := 40) rfl ?_); refine goesL_ (some 48) rfl rfl Tryz.func40 (by kernel_rfl) rfl #[.string a0, .string (a1.extract 0 (x8_2 : Int).toNat)] rfl qV ?_; (with_reducible refine (strings_HasSuffix.calls a0 (a1.extract 0 (x8_2 : Int).toNat) true _ A24.out).mono ?_); rintro e w' ⟨rfl, ⟨nd, rfl⟩⟩; refine ⟨_, rfl, ?_⟩))
     go_loopg [50] k2 (fun kq v50 w' => ∃ (x5_3 : List Bool) (x50_3 : Int), v50 = .int .i64 x50_3 ∧ Aside0 (impl_isSeed.l3 kq a0 x5_3 x8_2 x50_3 = some r) ∧ Aside0 (kq ≤ k2) ∧ Aside0 (Kd.R Kd.bool 4 w' w.heap.size (fun _ => True) v348 x5_3) ∧ Aside0 (Below w.heap.size w w'))
     case atStart => exact ⟨(x5_2), (0), qF, H', ⟨Nat.le_refl _⟩, ⟨qR HO_5.out⟩, ⟨qB HB.out⟩⟩
     case round =>
      clear H'
      obtain ⟨x5_3, x50_3, rfl, HA, HK3, HO_5, HB⟩ := hrel
      cases gk with
      | zero => exact absurd HA.out (by simp [impl_isSeed.l3])
      | succ k3 =>
       have H := HA.out
       clear HA
       simp only [impl_isSeed.l3] at H
       by_cases c26 : x50_3 < x8_2
       rotate_left
       ·
        rw [if_neg c26] at H
        have c26b0 : decide (x50_3 < x8_2) = false := decide_eq_false c26
        clear c26
        obtain ⟨t355, A33, H⟩ := qN H
        try dsimp only at H
        obtain rfl := Option.some.inj H
        obtain ⟨Ao34, co34, eo34⟩ := Kd.R_slice HO_5.out
        subst eo34
        go_wp2_with (first | ((with_reducible refine gate_callee (f := 69) rfl ?_); refine goesL_ (some 62) rfl rfl Tryz.func69 (by kernel_rfl) rfl #[.slice Ao34 x5_3.length co34, .bool false] rfl qV ?_; (with_reducible refine (slices_Contains_bool_bool.calls k3 _ _ x5_3 false t355 _ ?side1 ?side2 A33.out).mono ?_); (case side1 => exact qC (Kd.R_reads' HO_5.out).2.2); (case side2 => exact (Kd.R_reads' HO_5.out).2.1); rintro e w' ⟨rfl, ⟨nd, rfl⟩⟩; refine ⟨_, rfl, ?_⟩))
        go_ret
        exact ⟨qE, qB HB.out⟩
       rw [if_pos c26] at H
       have c26b0 : decide (x50_3 < x8_2) = true := decide_eq_true c26
       clear c26
       obtain ⟨ji27, hji27⟩ : ∃ j_ : Int, (wrap64 ((wrap64 ((a0.size : Int) - 1)) - x50_3)) = j_ := ⟨_, rfl⟩
       replace H : (if 0 ≤ (ji27) then (if (ji27) < (x5_3.length : Int) then (impl_isSeed.l3 k3 a0 (x5_3.set ((ji27) : Int).toNat true) x8_2 (wrap64 (x50_3 + 1))) else (none)) else (none)) = some r := by first | (rw [hji27] at H; exact H) | (simp only [hji27] at H ⊢; exact H)
       have hji27w : (IntKind.i64.wrap ((wrap64 ((a0.size : Int) - 1)) - x50_3)) = ji27 := (i64_w _).trans hji27
       by_cases c28 : 0 ≤ (ji27)
       rotate_left
       ·
        rw [if_neg c28] at H
        exact absurd H (by simp)
       rw [if_pos c28] at H
       have c28b0 : decide (0 ≤ (ji27)) = true := decide_eq_true c28
       clear c28
       by_cases c29 : (ji27) < (x5_3.length : Int)
       rotate_left
       ·
        rw [if_neg c29] at H
        exact absurd H (by simp)
       rw [if_pos c29] at H
       have c29b0 : decide ((ji27) < (x5_3.length : Int)) = true := decide_eq_true c29
       clear c29
       obtain ⟨y354, hy354⟩ : ∃ y_ : List Bool, y_ = (x5_3.set ((ji27) : Int).toNat true) := ⟨_, rfl⟩
       replace H : (impl_isSeed.l3 k3 a0 y354 x8_2 (wrap64 (x50_3 + 1))) = some r := by first | (rw [hy354]; with_reducible exact H) | (have H2_ := (Option.bind_some _ _).symm.trans H; rw [hy354]; with_reducible exact H2_) | (have H2_ := (Option.bind_some _ _).symm.trans H; with_reducible exact H2_) | with_reducible exact H | (rw [hy354]; exact H) | exact H
       have Ny354 := Aside0.mk hy354
       clear hy354
       have H' := Aside0.mk H
       clear H
       have p30 : 0 ≤ ((ji27) : Int) := of_decide_eq_true (by first | (with_reducible assumption) | assumption)
       have q30 : ((ji27) : Int) < ((x5_3.length : Int) : Int) := of_decide_eq_true (by first | (with_reducible assumption) | assumption)
       obtain ⟨go30, co30, eo30, gb30, gl30, cl30, HG30⟩ := Kd.R_form HO_5.out (by omega)
       (first | cases eo30 | (injection eo30 with ea_ en_ ec_; (first | subst ea_ | (injection ea_ with ea_; subst ea_)); subst ec_; clear en_))
       have GB30 := Aside0.mk gb30
       have GG30 := Aside0.mk HG30
       clear gb30 gl30 HG30
       obtain ⟨hx30_0, hf30_0⟩ := Kd.R_celln false HO_5.out ((ji27) : Int) p30 q30
       replace p30 := eq_true p30
       replace q30 := eq_true q30
       have HP31 := Kd.R_putg HO_5.out ((ji27) : Int) true
       go_wp2_with (first | ((with_reducible refine gate_store (t := 4) (p := 59) rfl ?_); refine store_event (t := 4) (p := 59) (v := ?vo_w32) (w1 := (wr.setCell ⟨go30, ((ji27) : Int).toNat, none⟩ (.bool true))) ?hg ?ho ?hn ?hr ?_; (case ho => rfl); (case hg => rfl); (case hn => rfl); (case hr => first | (go_simp; done) | (go_simp; rfl)); intro w32 hw; have hg : wr.grownBy w32 (some go30) := (by rw [hw]; exact HP31.2); have hp_ : Kd.R Kd.bool 4 w32 w.heap.size (fun _ => True) (.slice (some ⟨go30, 0, none⟩) x5_3.length co30) y354 := (by rw [hw, Ny354.out]; exact HP31.1); clear HP31; replace HO_5 := Aside0.mk (hp_); replace HB := Aside0.mk ((by rw [hw]; exact below_set (HB.out) GB30.out : Below w.heap.size w w32)); clear hg hw hp_))
       go_roundg k3
       case measure => have := HJ3.out; have := HK2.out; have := HK3.out; omega
       case rel => exact ⟨(y354), (wrap64 (x50_3 + 1)), qF, H', ⟨by have := HJ3.out; have := HK2.out; have := HK3.out; omega⟩, ⟨qR HO_5.out⟩, ⟨qB HB.out⟩⟩
end Go.Proofs.YtcfphjjdbccnoaaGreat.PF

namespace Go.Proofs.YtcfphjjdbccnoaaGreat.PF
open Go.RowKit Go.Proofs.YtcfphjjdbccnoaaGreatW.PrintWords Go.Proofs.YtcfphjjdbccnoaaGreatW.PrintLast Go.Proofs.YtcfphjjdbccnoaaGreatW.PrintMore
attribute [local go_sem] max2_int min2_int max_two min_two max_three min_three max_four min_four   -- for this text's walks alone
set_option linter.unusedVariables false
set_option linter.unusedSimpArgs false

/-! ### impl_seeds_1: function 65 -/
def impl_seeds_1.f (k : Nat) (a0 : ByteArray) (a1 : ByteArray) : Option (Bool) := (impl_isSeed.f k a1 a0).bind fun t357 => (some (!t357))
theorem impl_seeds_1.mono : ∀ a0 a1 k, LeO (impl_seeds_1.f k a0 a1) (impl_seeds_1.f (k + 1) a0 a1) := by
 intro a0 a1 k
 unfold impl_seeds_1.f
 with_reducible repeat' first
   | exact impl_isSeed.mono _ _ _
   | exact LeO.refl _
   | exact LeO.none _
   | refine LeO.ite ?_ ?_
   | refine LeO.bind ?_ (fun _ => ?_)
set_option maxHeartbeats 8000000 in
set_option maxRecDepth 100000 in
theorem impl_seeds_1.calls (k : Nat) (a0 : ByteArray) (g1 : Nat) (a1 : ByteArray) (r : Bool) (w : World) (hb1 : w.heap[g1]? = some (.cells #[.string a1] 9 (0, 0))) (h : impl_seeds_1.f k a0 a1 = some r) :
  Calls Tryz.prog 65 #[.string a0, .pointer (some ⟨g1, 0, none⟩)] w fun e w' => e = .returned (.bool r) ∧ Below w.heap.size w w' := by
 have BK356 := Aside0.mk hb1
 clear hb1
 have HB := Aside0.mk (Below.refl w.heap.size w)
 have H : ((impl_isSeed.f k a1 a0).bind fun t357 => (some (!t357))) = some r := h
 clear h
 obtain ⟨t357, A3, H⟩ := qN H
 try dsimp only at H
 obtain rfl := Option.some.inj H
 have hcz4_0 : w.cell? ⟨g1, 0, none⟩ = some (.string a1) := (blk_cell BK356.out 0).trans rfl
 have hfz4_0 := blk_frozen BK356.out 0
 go_enter Tryz.func65, Tryz.ntmps65
 go_wp2_with (first | ((with_reducible refine gate_callee (f := 36) rfl ?_); refine goesL_ (some 6) rfl rfl Tryz.func36 (by kernel_rfl) rfl #[.string a1, .string a0] rfl qV ?_; (with_reducible refine (impl_isSeed.calls k a1 a0 t357 _ A3.out).mono ?_); rintro e w5 ⟨rfl, hb⟩; refine ⟨_, rfl, ?_⟩; replace BK356 := Aside0.mk (blk_below (g := g1) (o := .cells #[.string a1] 9 (0, 0)) (qA BK356.out) hb); replace HB := Aside0.mk (below_step (qG HB.out) hb)))
 go_ret
 exact ⟨qE, qG HB.out⟩

end Go.Proofs.YtcfphjjdbccnoaaGreat.PF

namespace Go.Proofs.YtcfphjjdbccnoaaGreat.PF
open Go.RowKit Go.Proofs.YtcfphjjdbccnoaaGreatW.PrintWords Go.Proofs.YtcfphjjdbccnoaaGreatW.PrintLast Go.Proofs.YtcfphjjdbccnoaaGreatW.PrintMore
attribute [local go_sem] max2_int min2_int max_two min_two max_three min_three max_four min_four   -- for this text's walks alone
set_option linter.unusedVariables false
set_option linter.unusedSimpArgs false

/-! ### impl_isCovered: function 51 -/
def impl_isCovered.f (k : Nat) (a0 : ByteArray) (l1 : List ByteArray) : Option (Bool) := (impl_covered.f k a0 l1).bind fun t465 => ((slices_Contains_bool_bool.f k t465 false).bind fun t468 => (some (!t468)))
theorem impl_isCovered.mono : ∀ a0 a1 k, LeO (impl_isCovered.f k a0 a1) (impl_isCovered.f (k + 1) a0 a1) := by
 intro a0 a1 k
 unfold impl_isCovered.f
 with_reducible repeat' first
   | exact impl_covered.mono _ _ _
   | exact slices_Contains_bool_bool.mono _ _ _
   | exact LeO.refl _
   | exact LeO.none _
   | refine LeO.ite ?_ ?_
   | refine LeO.bind ?_ (fun _ => ?_)
set_option maxHeartbeats 8000000 in
set_option maxRecDepth 100000 in
theorem impl_isCovered.calls (k : Nat) (a0 : ByteArray) (A1 : Option Addr) (c1 : Nat) (l1 : List ByteArray) (r : Bool) (w : World) (hr1 : Kd.C Kd.string w A1 l1.length l1) (hc1 : l1.length ≤ c1) (h : impl_isCovered.f k a0 l1 = some r) :
  Calls Tryz.prog 51 #[.string a0, .slice A1 l1.length c1] w fun e w' => e = .returned (.bool r) ∧ Below w.heap.size w w' := by
 have HR1 := Aside0.mk hr1
 have HC1 := Aside0.mk hc1
 clear hr1 hc1
 have HB := Aside0.mk (Below.refl w.heap.size w)
 have H : ((impl_covered.f k a0 l1).bind fun t465 => ((slices_Contains_bool_bool.f k t465 false).bind fun t468 => (some (!t468)))) = some r := h
 clear h
 obtain ⟨t465, A3, H⟩ := qN H
 try dsimp only at H
 obtain ⟨t468, A4, H⟩ := qN H
 try dsimp only at H
 obtain rfl := Option.some.inj H
 go_enter Tryz.func51, Tryz.ntmps51
 go_wp2_with (first | ((with_reducible refine gate_callee (f := 41) rfl ?_); refine goesL_ (some 7) rfl rfl Tryz.func41 (by kernel_rfl) rfl #[.string a0, .slice A1 l1.length c1] rfl qV ?_; (with_reducible refine (impl_covered.calls k a0 _ _ l1 t465 _ ?side1 ?side2 A3.out).mono ?_); (case side1 => exact qC HR1.out); (case side2 => exact HC1.out); rintro e w5 ⟨v466, rfl, ho0, hb⟩; refine ⟨_, rfl, ?_⟩; have HO467 := Aside0.mk (Kd.R_lower ho0 (below_size (qB HB.out))); replace HB := Aside0.mk (below_step (qB HB.out) hb); obtain ⟨Ao6, co6, eo6⟩ := Kd.R_slice HO467.out; subst eo6) | ((with_reducible refine gate_callee (f := 69) rfl ?_); refine goesL_ (some 8) rfl rfl Tryz.func69 (by kernel_rfl) rfl #[.slice Ao6 t465.length co6, .bool false] rfl qV ?_; (with_reducible refine (slices_Contains_bool_bool.calls k _ _ t465 false t468 _ ?side1 ?side2 A4.out).mono ?_); (case side1 => exact qC (Kd.R_reads' HO467.out).2.2); (case side2 => exact (Kd.R_reads' HO467.out).2.1); rintro e w' ⟨rfl, ⟨nd, rfl⟩⟩; refine ⟨_, rfl, ?_⟩))
 go_ret
 exact ⟨qE, qB HB.out⟩

end Go.Proofs.YtcfphjjdbccnoaaGreat.PF

namespace Go.Proofs.YtcfphjjdbccnoaaGreat.PF
open Go.RowKit Go.Proofs.YtcfphjjdbccnoaaGreatW.PrintWords Go.Proofs.YtcfphjjdbccnoaaGreatW.PrintLast Go.Proofs.YtcfphjjdbccnoaaGreatW.PrintMore
attribute [local go_sem] max2_int min2_int max_two min_two max_three min_three max_four min_four   -- for this text's walks alone
set_option linter.unusedVariables false
set_option linter.unusedSimpArgs false

/-! ### impl_covers: function 37 -/
def impl_covers.l0 : Nat → ByteArray → List ByteArray → Int → Option (List ByteArray)
 | 0, _, _, _ => none
 | k + 1, x0, x3, x4 => if x4 ≤ (x0.size : Int) then (if 0 ≤ x4 then ((impl_isCovered.f k x0 (([x0.extract 0 (x4 : Int).toNat] : List ByteArray))).bind fun t472 => (if t472 = true then (if x3.length < 8796093022208 then (impl_covers.l0 k x0 (x3 ++ [x0.extract 0 (x4 : Int).toNat]) (wrap64 (x4 + 1))) else (none)) else (impl_covers.l0 k x0 x3 (wrap64 (x4 + 1))))) else (none)) else (some x3)
def impl_covers.f (k : Nat) (a0 : ByteArray) : Option (List ByteArray) := impl_covers.l0 k a0 ([] : List ByteArray) 1
theorem impl_covers.mono_l : ∀ k, (∀ y0 y1 y2, LeO (impl_covers.l0 k y0 y1 y2) (impl_covers.l0 (k + 1) y0 y1 y2))
 | 0 => fun _ _ _ r h => by simp [impl_covers.l0] at h
 | k + 1 => by
  have ih0 := impl_covers.mono_l k
  ·
   intro y0 y1 y2
   unfold impl_covers.l0
   with_reducible repeat' first
   | exact ih0 _ _ _
   | exact impl_isCovered.mono _ _ _
   | exact LeO.refl _
   | exact LeO.none _
   | refine LeO.ite ?_ ?_
   | refine LeO.bind ?_ (fun _ => ?_)
theorem impl_covers.mono : ∀ a0 k, LeO (impl_covers.f k a0) (impl_covers.f (k + 1) a0) := by
 intro a0 k
 have ih0 := impl_covers.mono_l k
 unfold impl_covers.f
 with_reducible repeat' first
   | exact ih0 _ _ _
   | exact impl_isCovered.mono _ _ _
   | exact LeO.refl _
   | exact LeO.none _
   | refine LeO.ite ?_ ?_
   | refine LeO.bind ?_ (fun _ => ?_)
set_option maxHeartbeats 8000000 in
set_option maxRecDepth 100000 in
theorem impl_covers.calls (k : Nat) (a0 : ByteArray) (r : List ByteArray) (w : World) (h : impl_covers.f k a0 = some r) :
  Calls Tryz.prog 37 #[.string a0] w fun e w' => ∃ v0_ : Value, e = .returned (v0_) ∧ Kd.R Kd.string 9 w' w.heap.size (fun _ => True) v0_ r ∧ Below w.heap.size w w' := by
 have HB := Aside0.mk (Below.refl w.heap.size w)
 have H : (impl_covers.l0 k a0 ([] : List ByteArray) 1) = some r := h
 clear h
 have H' := Aside0.mk H
 clear H
 go_enter Tryz.func37, Tryz.ntmps37
 go_wp2
 go_loopg [3, 4] k (fun kq v3 v4 w' => ∃ (x3_1 : List ByteArray) (x4_1 : Int), v4 = .int .i64 x4_1 ∧ Aside0 (impl_covers.l0 kq a0 x3_1 x4_1 = some r) ∧ Aside0 (kq ≤ k) ∧ Aside0 (Kd.R Kd.string 9 w' w.heap.size (fun _ => True) v3 x3_1) ∧ Aside0 (Below w.heap.size w w'))
 case atStart => exact ⟨(([] : List ByteArray)), (1), qF, H', ⟨Nat.le_refl _⟩, ⟨by first | exact Kd.R_nil _ _ _ _ _ | exact Kd.N_nil _ _ _ _ _ | exact Kd.V_nil _ _ _ _ _ | exact Kd.Q_nil _ _ _ _ _ | exact Kd.S_nil _ _ _ _ _⟩, ⟨qB HB.out⟩⟩
 case round =>
  clear H'
  obtain ⟨x3_1, x4_1, rfl, HA, HK1, HO_3, HB⟩ := hrel
  cases gk with
  | zero => exact absurd HA.out (by simp [impl_covers.l0])
  | succ k1 =>
   have H := HA.out
   clear HA
   simp only [impl_covers.l0] at H
   by_cases c2 : x4_1 ≤ (a0.size : Int)
   rotate_left
   ·
    rw [if_neg c2] at H
    have c2b0 : decide (x4_1 ≤ (a0.size : Int)) = false := decide_eq_false c2
    clear c2
    obtain rfl := Option.some.inj H
    go_wp2
    go_ret
    exact ⟨_, qE, qR HO_3.out, qB HB.out⟩

   rw [if_pos c2] at H
   have c2b0 : decide (x4_1 ≤ (a0.size : Int)) = true := decide_eq_true c2
   clear c2
   by_cases c3 : 0 ≤ x4_1
   rotate_left
   ·
    rw [if_neg c3] at H
    exact absurd H (by simp)
   rw [if_pos c3] at H
   have c3b0 := eq_true c3
   have c3b1 : decide (0 ≤ x4_1) = true := decide_eq_true c3
   clear c3
   have c4b0 := eq_true (of_decide_eq_true (by first | (with_reducible assumption) | assumption) : x4_1 ≤ (a0.size : Int))
   obtain ⟨y469, hy469⟩ : ∃ y_ : List ByteArray, y_ = (([a0.extract 0 (x4_1 : Int).toNat] : List ByteArray)) := ⟨_, rfl⟩
   replace H : ((impl_isCovered.f k1 a0 y469).bind fun t472 => (if t472 = true then (if x3_1.length < 8796093022208 then (impl_covers.l0 k1 a0 (x3_1 ++ [a0.extract 0 (x4_1 : Int).toNat]) (wrap64 (x4_1 + 1))) else (none)) else (impl_covers.l0 k1 a0 x3_1 (wrap64 (x4_1 + 1))))) = some r := by first | (rw [hy469]; with_reducible exact H) | (have H2_ := (Option.bind_some _ _).symm.trans H; rw [hy469]; with_reducible exact H2_) | (have H2_ := (Option.bind_some _ _).symm.trans H; with_reducible exact H2_) | with_reducible exact H | (rw [hy469]; exact H) | exact H
   have Ny469 := Aside0.mk hy469
   clear hy469
   obtain ⟨t472, A5, H⟩ := qN H
   try dsimp only at H
   by_cases c6 : t472 = true
   rotate_left
   ·
    replace c6 := Bool.eq_false_iff.mpr c6
    subst c6
    rw [if_neg (show ¬ (false = true) by decide)] at H
    have H' := Aside0.mk H
    clear H
    go_wp2_with (first | ((with_reducible refine gate_dst (N := 15) rfl ?_); refine Kd.R_lit Kd.string _ 9 ?hg (N := 15) ?hd (xs := ([a0.extract 0 (x4_1 : Int).toNat] : List ByteArray)) (inner := [.string (a0.extract 0 (x4_1 : Int).toNat)]) (ok := fun _ => True) (okp := fun _ => True) ?hr ?hp (fun _ hk => hk) trivial (Below.refl _ _) (Nat.le_refl _) (by simp) ?_; (case hd => rfl); (case hg => rfl); (case hr => first | (go_simp; done) | (go_simp; rfl)); (case hp => exact (Reps.one (show Kd.M Kd.string _ _ _ (a0.extract 0 (x4_1 : Int).toNat) [.string (a0.extract 0 (x4_1 : Int).toNat)] from rfl) (Reps.none _ _))); intro v470 w15 ho16 hb hg_ hnew_; clear hg_ hnew_; (first | rw [← Ny469.out] at ho16 | (simp only [Int.reduceToNat] at ho16; rw [← Ny469.out] at ho16)); have HO471 := Aside0.mk (Kd.R_lower (Kd.R_new' ho16 (Kd.R_lt (qR HO_3.out))) (below_size (qB HB.out))); replace HO_3 := Aside0.mk (Kd.R_elder' (qR HO_3.out) (Kd.R_base ho16) hb); replace HB := Aside0.mk (below_step (qB HB.out) hb); clear hb ho16; obtain ⟨Ao17, co17, eo17⟩ := Kd.R_slice HO471.out; subst eo17) | ((with_reducible refine gate_callee (f := 51) rfl ?_); refine goesL_ (some 16) rfl rfl Tryz.func51 (by kernel_rfl) rfl #[.string a0, .slice Ao17 y469.length co17] rfl qV ?_; (with_reducible refine (impl_isCovered.calls k1 a0 _ _ y469 false _ ?side1 ?side2 A5.out).mono ?_); (case side1 => exact qC (Kd.R_reads' HO471.out).2.2); (case side2 => exact (Kd.R_reads' HO471.out).2.1); rintro e w18 ⟨rfl, hb⟩; refine ⟨_, rfl, ?_⟩; replace HO_3 := Aside0.mk (Kd.R_below (qR HO_3.out) hb); replace HO471 := Aside0.mk (Kd.R_below (qR HO471.out) hb); replace HB := Aside0.mk (below_step (qB HB.out) hb)))
    go_roundg k1
    case measure => have := HK1.out; omega
    case rel => exact ⟨(x3_1), (wrap64 (x4_1 + 1)), qF, H', ⟨by have := HK1.out; omega⟩, ⟨by (with_reducible repeat (first | apply Kd.R_alloc | apply Kd.R_drewN | apply Kd.R_drew)); exact Kd.R_mono HO_3.out (fun _ hk => trivial)⟩, ⟨qB HB.out⟩⟩
   subst c6
   rw [if_pos rfl] at H
   have c7b0 := eq_true (of_decide_eq_true (by first | (with_reducible assumption) | assumption) : 0 ≤ x4_1)
   have c8b0 := eq_true (of_decide_eq_true (by first | (with_reducible assumption) | assumption) : x4_1 ≤ (a0.size : Int))
   by_cases c9 : x3_1.length < 8796093022208
   rotate_left
   ·
    rw [if_neg c9] at H
    exact absurd H (by simp)
   rw [if_pos c9] at H
   have LMc9 := Aside0.mk c9
   clear c9
   obtain ⟨y473, hy473⟩ : ∃ y_ : List ByteArray, y_ = (x3_1 ++ [a0.extract 0 (x4_1 : Int).toNat]) := ⟨_, rfl⟩
   replace H : (impl_covers.l0 k1 a0 y473 (wrap64 (x4_1 + 1))) = some r := by first | (rw [hy473]; with_reducible exact H) | (have H2_ := (Option.bind_some _ _).symm.trans H; rw [hy473]; with_reducible exact H2_) | (have H2_ := (Option.bind_some _ _).symm.trans H; with_reducible exact H2_) | with_reducible exact H | (rw [hy473]; exact H) | exact H
   have Ny473 := Aside0.mk hy473
   clear hy473
   have H' := Aside0.mk H
   clear H
   go_wp2_with (first | ((with_reducible refine gate_dst (N := 15) rfl ?_); refine Kd.R_lit Kd.string _ 9 ?hg (N := 15) ?hd (xs := ([a0.extract 0 (x4_1 : Int).toNat] : List ByteArray)) (inner := [.string (a0.extract 0 (x4_1 : Int).toNat)]) (ok := fun _ => True) (okp := fun _ => True) ?hr ?hp (fun _ hk => hk) trivial (Below.refl _ _) (Nat.le_refl _) (by simp) ?_; (case hd => rfl); (case hg => rfl); (case hr => first | (go_simp; done) | (go_simp; rfl)); (case hp => exact (Reps.one (show Kd.M Kd.string _ _ _ (a0.extract 0 (x4_1 : Int).toNat) [.string (a0.extract 0 (x4_1 : Int).toNat)] from rfl) (Reps.none _ _))); intro v470 w10 ho11 hb hg_ hnew_; clear hg_ hnew_; (first | rw [← Ny469.out] at ho11 | (simp only [Int.reduceToNat] at ho11; rw [← Ny469.out] at ho11)); have HO471 := Aside0.mk (Kd.R_lower (Kd.R_new' ho11 (Kd.R_lt (qR HO_3.out))) (below_size (qB HB.out))); replace HO_3 := Aside0.mk (Kd.R_elder' (qR HO_3.out) (Kd.R_base ho11) hb); replace HB := Aside0.mk (below_step (qB HB.out) hb); clear hb ho11; obtain ⟨Ao12, co12, eo12⟩ := Kd.R_slice HO471.out; subst eo12) | ((with_reducible refine gate_callee (f := 51) rfl ?_); refine goesL_ (some 16) rfl rfl Tryz.func51 (by kernel_rfl) rfl #[.string a0, .slice Ao12 y469.length co12] rfl qV ?_; (with_reducible refine (impl_isCovered.calls k1 a0 _ _ y469 true _ ?side1 ?side2 A5.out).mono ?_); (case side1 => exact qC (Kd.R_reads' HO471.out).2.2); (case side2 => exact (Kd.R_reads' HO471.out).2.1); rintro e w13 ⟨rfl, hb⟩; refine ⟨_, rfl, ?_⟩; replace HO_3 := Aside0.mk (Kd.R_below (qR HO_3.out) hb); replace HO471 := Aside0.mk (Kd.R_below (qR HO471.out) hb); replace HB := Aside0.mk (below_step (qB HB.out) hb)) | ((with_reducible refine gate_builtin (b := .append) (xs := #[.tmp 17, .tmp 21]) rfl ?_); at_builtin; refine Kd.R_append Kd.string (w0 := w) w.heap.size rfl (.tmp 17) (.tmp 21) 29 9 (.string ⟨#[]⟩) 16 rfl Tryz.underlying29 info9 rfl (by decide) (by omega) u3 x3_1 (a0.extract 0 (x4_1 : Int).toNat) [.string (a0.extract 0 (x4_1 : Int).toNat)] (fun k_ => some k_ ≠ (.slice Ao12 y469.length co12 : Value).ownBlock) (fun _ => False) rfl rfl ?aP (fun _ hk => hk.elim) ?aF ?aO ?aB ?aS ?aL ?_; (case aP => exact rfl); (case aB => exact (qB HB.out)); (case aF => exact (fun k_ hk => Kd.fresh' (Kd.R_lt (qR HO471.out)) k_ hk)); (case aO => exact (by (with_reducible repeat (first | apply Kd.R_alloc | apply Kd.R_drewN | apply Kd.R_drew)); exact Kd.R_mono HO_3.out (fun _ hk => hk.2))); (case aS => exact (below_size (qB HB.out))); (case aL => have := LMc9.out; omega); intro v474 w14 ho hb hg hat; rw [← Ny473.out] at ho; replace HO471 := Aside0.mk (Kd.R_after (ok := (fun _ => True)) (qR HO471.out) hg hat); replace HB := Aside0.mk (hb); have HO475 := Aside0.mk (ho); clear HO_3; clear ho hb hg hat))
   go_roundg k1
   case measure => have := HK1.out; omega
   case rel => exact ⟨(y473), (wrap64 (x4_1 + 1)), qF, H', ⟨by have := HK1.out; omega⟩, ⟨by (with_reducible repeat (first | apply Kd.R_alloc | apply Kd.R_drewN | apply Kd.R_drew)); exact Kd.R_mono HO475.out (fun _ hk => trivial)⟩, ⟨qB HB.out⟩⟩
end Go.Proofs.YtcfphjjdbccnoaaGreat.PF

namespace Go.Proofs.YtcfphjjdbccnoaaGreat.PF
open Go.RowKit Go.Proofs.YtcfphjjdbccnoaaGreatW.PrintWords Go.Proofs.YtcfphjjdbccnoaaGreatW.PrintLast Go.Proofs.YtcfphjjdbccnoaaGreatW.PrintMore
attribute [local go_sem] max2_int min2_int max_two min_two max_three min_three max_four min_four   -- for this text's walks alone
set_option linter.unusedVariables false
set_option linter.unusedSimpArgs false

/-! ### impl_LeastCover: function 9 -/
def impl_LeastCover.f (k : Nat) (a0 : ByteArray) : Option (ByteArray × Int) := (impl_wordCode.f k (impl_always.f) (([a0] : List ByteArray))).bind fun t479 => (if t479 = 0 then (if a0.toList = ([] : List UInt8) then (some ((⟨#[]⟩ : ByteArray), 4)) else ((impl_covers.f k a0).bind fun t480 => (if 0 < (t480.length : Int) then (some (rdOf ByteArray.empty t480 0, 0)) else (none)))) else (some ((⟨#[]⟩ : ByteArray), t479)))
theorem impl_LeastCover.mono : ∀ a0 k, LeO (impl_LeastCover.f k a0) (impl_LeastCover.f (k + 1) a0) := by
 intro a0 k
 unfold impl_LeastCover.f
 repeat' first
   | (with_reducible exact impl_covers.mono _ _)
   | (with_reducible exact LeO.refl _)
   | (with_reducible exact LeO.none _)
   | (with_reducible refine LeO.ite ?_ ?_)
   | (with_reducible refine LeO.bind ?_ (fun _ => ?_))
   | refine impl_wordCode.monoP ?_
set_option maxHeartbeats 8000000 in
set_option maxRecDepth 100000 in
theorem impl_LeastCover.calls (k : Nat) (a0 : ByteArray) (r1 : ByteArray) (r2 : Int) (w : World) (h : impl_LeastCover.f k a0 = some (r1, r2)) :
  Calls Tryz.prog 9 #[.string a0] w fun e w' => e = .returned (.tuple #[.string r1, .int .i64 r2]) ∧ Below w.heap.size w w' := by
 have HB := Aside0.mk (Below.refl w.heap.size w)
 have H : ((impl_wordCode.f k (impl_always.f) (([a0] : List ByteArray))).bind fun t479 => (if t479 = 0 then (if a0.toList = ([] : List UInt8) then (some ((⟨#[]⟩ : ByteArray), 4)) else ((impl_covers.f k a0).bind fun t480 => (if 0 < (t480.length : Int) then (some (rdOf ByteArray.empty t480 0, 0)) else (none)))) else (some ((⟨#[]⟩ : ByteArray), t479)))) = some (r1, r2) := h
 clear h
 obtain ⟨y476, hy476⟩ : ∃ y_ : List ByteArray, y_ = (([a0] : List ByteArray)) := ⟨_, rfl⟩
 replace H : ((impl_wordCode.f k (impl_always.f) y476).bind fun t479 => (if t479 = 0 then (if a0.toList = ([] : List UInt8) then (some ((⟨#[]⟩ : ByteArray), 4)) else ((impl_covers.f k a0).bind fun t480 => (if 0 < (t480.length : Int) then (some (rdOf ByteArray.empty t480 0, 0)) else (none)))) else (some ((⟨#[]⟩ : ByteArray), t479)))) = some (r1, r2) := by first | (rw [hy476]; with_reducible exact H) | (have H2_ := (Option.bind_some _ _).symm.trans H; rw [hy476]; with_reducible exact H2_) | (have H2_ := (Option.bind_some _ _).symm.trans H; with_reducible exact H2_) | with_reducible exact H | (rw [hy476]; exact H) | exact H
 have Ny476 := Aside0.mk hy476
 clear hy476
 obtain ⟨t479, A2, H⟩ := qN H
 try dsimp only at H
 by_cases c3 : t479 = 0
 rotate_left
 ·
  rw [if_neg c3] at H
  obtain ⟨c3b0, c3b1⟩ := zF c3
  simp only [Option.some.injEq, Prod.mk.injEq] at H
  obtain ⟨rfl, rfl⟩ := H
  go_enter Tryz.func9, Tryz.ntmps9
  go_wp2_with (first | ((with_reducible refine gate_dst (N := 6) rfl ?_); refine Kd.R_lit Kd.string _ 9 ?hg (N := 6) ?hd (xs := ([a0] : List ByteArray)) (inner := [.string a0]) (ok := fun _ => True) (okp := fun _ => True) ?hr ?hp (fun _ hk => hk) trivial (Below.refl _ _) (Nat.le_refl _) (by simp) ?_; (case hd => rfl); (case hg => rfl); (case hr => first | (go_simp; done) | (go_simp; rfl)); (case hp => exact (Reps.one (show Kd.M Kd.string _ _ _ a0 [.string a0] from rfl) (Reps.none _ _))); intro v477 w17 ho18 hb hg_ hnew_; clear hg_ hnew_; (first | rw [← Ny476.out] at ho18 | (simp only [Int.reduceToNat] at ho18; rw [← Ny476.out] at ho18)); have HO478 := Aside0.mk (Kd.R_lower ho18 (below_size (qB HB.out))); replace HB := Aside0.mk (below_step (qB HB.out) hb); clear hb ho18; obtain ⟨Ao19, co19, eo19⟩ := Kd.R_slice HO478.out; subst eo19) | ((with_reducible refine gate_callee (f := 30) rfl ?_); refine goesL_ (some 7) rfl rfl Tryz.func30 (by kernel_rfl) rfl #[.func (.func 31) #[] #[], .slice Ao19 y476.length co19] rfl qV ?_; (with_reducible refine (impl_wordCode.calls k (impl_always.f) 31 #[] _ _ y476 t479 _ ?side1 ?side2 ?side3 A2.out).mono ?_); (case side1 => exact qC (Kd.R_reads' HO478.out).2.2); (case side2 => exact (Kd.R_reads' HO478.out).2.1); (case side3 => exact ⟨Go.Proofs.enters_of Tryz.func31 (by kernel_rfl) rfl, fun W_ hW_ r_ h_ => (impl_always.calls  r_ W_  h_).mono (fun e_ W2_ h2_ => ⟨h2_.1, by first | exact h2_.2 | exact h2_.2.below⟩)⟩); rintro e w20 ⟨rfl, hb⟩; refine ⟨_, rfl, ?_⟩; replace HO478 := Aside0.mk (Kd.R_below (qR HO478.out) hb); replace HB := Aside0.mk (below_step (qB HB.out) hb)))
  go_ret2
  exact ⟨qE, qB HB.out⟩

 rw [if_pos c3] at H
 obtain ⟨c3b0, c3b1⟩ := zT c3
 clear c3
 by_cases c4 : a0.toList = ([] : List UInt8)
 ·
  rw [if_pos c4] at H
  obtain ⟨c4b0, c4b1⟩ := zT c4
  clear c4
  simp only [Option.some.injEq, Prod.mk.injEq] at H
  obtain ⟨rfl, rfl⟩ := H
  go_enter Tryz.func9, Tryz.ntmps9
  go_wp2_with (first | ((with_reducible refine gate_dst (N := 6) rfl ?_); refine Kd.R_lit Kd.string _ 9 ?hg (N := 6) ?hd (xs := ([a0] : List ByteArray)) (inner := [.string a0]) (ok := fun _ => True) (okp := fun _ => True) ?hr ?hp (fun _ hk => hk) trivial (Below.refl _ _) (Nat.le_refl _) (by simp) ?_; (case hd => rfl); (case hg => rfl); (case hr => first | (go_simp; done) | (go_simp; rfl)); (case hp => exact (Reps.one (show Kd.M Kd.string _ _ _ a0 [.string a0] from rfl) (Reps.none _ _))); intro v477 w5 ho6 hb hg_ hnew_; clear hg_ hnew_; (first | rw [← Ny476.out] at ho6 | (simp only [Int.reduceToNat] at ho6; rw [← Ny476.out] at ho6)); have HO478 := Aside0.mk (Kd.R_lower ho6 (below_size (qB HB.out))); replace HB := Aside0.mk (below_step (qB HB.out) hb); clear hb ho6; obtain ⟨Ao7, co7, eo7⟩ := Kd.R_slice HO478.out; subst eo7) | ((with_reducible refine gate_callee (f := 30) rfl ?_); refine goesL_ (some 7) rfl rfl Tryz.func30 (by kernel_rfl) rfl #[.func (.func 31) #[] #[], .slice Ao7 y476.length co7] rfl qV ?_; (with_reducible refine (impl_wordCode.calls k (impl_always.f) 31 #[] _ _ y476 t479 _ ?side1 ?side2 ?side3 A2.out).mono ?_); (case side1 => exact qC (Kd.R_reads' HO478.out).2.2); (case side2 => exact (Kd.R_reads' HO478.out).2.1); (case side3 => exact ⟨Go.Proofs.enters_of Tryz.func31 (by kernel_rfl) rfl, fun W_ hW_ r_ h_ => (impl_always.calls  r_ W_  h_).mono (fun e_ W2_ h2_ => ⟨h2_.1, by first | exact h2_.2 | exact h2_.2.below⟩)⟩); rintro e w8 ⟨rfl, hb⟩; refine ⟨_, rfl, ?_⟩; replace HO478 := Aside0.mk (Kd.R_below (qR HO478.out) hb); replace HB := Aside0.mk (below_step (qB HB.out) hb)))
  go_ret2
  exact ⟨qE, qB HB.out⟩
 rw [if_neg c4] at H
 obtain ⟨c4b0, c4b1⟩ := zF c4
 obtain ⟨t480, A9, H⟩ := qN H
 try dsimp only at H
 by_cases c10 : 0 < (t480.length : Int)
 rotate_left
 ·
  rw [if_neg c10] at H
  exact absurd H (by simp)
 rw [if_pos c10] at H
 have c10b0 : decide (0 < (t480.length : Int)) = true := decide_eq_true c10
 have c10b1 : decide (0 < t480.length) = true := decide_eq_true (by omega)
 clear c10
 simp only [Option.some.injEq, Prod.mk.injEq] at H
 obtain ⟨rfl, rfl⟩ := H
 go_enter Tryz.func9, Tryz.ntmps9
 go_wp2_with (first | ((with_reducible refine gate_dst (N := 6) rfl ?_); refine Kd.R_lit Kd.string _ 9 ?hg (N := 6) ?hd (xs := ([a0] : List ByteArray)) (inner := [.string a0]) (ok := fun _ => True) (okp := fun _ => True) ?hr ?hp (fun _ hk => hk) trivial (Below.refl _ _) (Nat.le_refl _) (by simp) ?_; (case hd => rfl); (case hg => rfl); (case hr => first | (go_simp; done) | (go_simp; rfl)); (case hp => exact (Reps.one (show Kd.M Kd.string _ _ _ a0 [.string a0] from rfl) (Reps.none _ _))); intro v477 w11 ho12 hb hg_ hnew_; clear hg_ hnew_; (first | rw [← Ny476.out] at ho12 | (simp only [Int.reduceToNat] at ho12; rw [← Ny476.out] at ho12)); have HO478 := Aside0.mk (Kd.R_lower ho12 (below_size (qB HB.out))); replace HB := Aside0.mk (below_step (qB HB.out) hb); clear hb ho12; obtain ⟨Ao13, co13, eo13⟩ := Kd.R_slice HO478.out; subst eo13) | ((with_reducible refine gate_callee (f := 30) rfl ?_); refine goesL_ (some 7) rfl rfl Tryz.func30 (by kernel_rfl) rfl #[.func (.func 31) #[] #[], .slice Ao13 y476.length co13] rfl qV ?_; (with_reducible refine (impl_wordCode.calls k (impl_always.f) 31 #[] _ _ y476 t479 _ ?side1 ?side2 ?side3 A2.out).mono ?_); (case side1 => exact qC (Kd.R_reads' HO478.out).2.2); (case side2 => exact (Kd.R_reads' HO478.out).2.1); (case side3 => exact ⟨Go.Proofs.enters_of Tryz.func31 (by kernel_rfl) rfl, fun W_ hW_ r_ h_ => (impl_always.calls  r_ W_  h_).mono (fun e_ W2_ h2_ => ⟨h2_.1, by first | exact h2_.2 | exact h2_.2.below⟩)⟩); rintro e w14 ⟨rfl, hb⟩; refine ⟨_, rfl, ?_⟩; replace HO478 := Aside0.mk (Kd.R_below (qR HO478.out) hb); replace HB := Aside0.mk (below_step (qB HB.out) hb)) | ((with_reducible refine gate_callee (f := 37) rfl ?_); refine goesL_ (some 14) rfl rfl Tryz.func37 (by kernel_rfl) rfl #[.string a0] rfl qV ?_; (with_reducible refine (impl_covers.calls k a0 t480 _ A9.out).mono ?_); rintro e w15 ⟨v481, rfl, ho0, hb⟩; refine ⟨_, rfl, ?_⟩; have HO482 := Aside0.mk (Kd.R_lower (Kd.R_new' ho0 (Kd.R_lt (qR HO478.out))) (below_size (qB HB.out))); replace HO478 := Aside0.mk (Kd.R_elder' (qR HO478.out) (Kd.R_base ho0) hb); replace HB := Aside0.mk (below_step (qB HB.out) hb); obtain ⟨Ao16, co16, eo16⟩ := Kd.R_slice HO482.out; subst eo16; have p483 : 0 ≤ (0 : Int) := (by omega); have q483 : 0 < (t480.length : Int) := of_decide_eq_true (by first | (with_reducible assumption) | assumption); obtain ⟨ad483, e483, hx483_0⟩ := Kd.at_string (Kd.R_reads' HO482.out).2.2 0 p483 q483; cases e483; have qi483 : (0 < t480.length) = True := eq_true (by omega); (try rw [show ((0 : Int)).toNat = 0 from rfl] at hx483_0); (try rw [Addr.add_zero'] at hx483_0); replace p483 := eq_true p483; replace q483 := eq_true q483))
 go_ret2
 exact ⟨qE, qB HB.out⟩
end Go.Proofs.YtcfphjjdbccnoaaGreat.PF

namespace Go.Proofs.YtcfphjjdbccnoaaGreat.PF
open Go.RowKit Go.Proofs.YtcfphjjdbccnoaaGreatW.PrintWords Go.Proofs.YtcfphjjdbccnoaaGreatW.PrintLast Go.Proofs.YtcfphjjdbccnoaaGreatW.PrintMore
attribute [local go_sem] max2_int min2_int max_two min_two max_three min_three max_four min_four   -- for this text's walks alone
set_option linter.unusedVariables false
set_option linter.unusedSimpArgs false

/-! ### impl_BestBorder: function 12 -/
mutual
def impl_BestBorder.l0 : Nat → ByteArray → ByteArray → Int → Int → Option (ByteArray × Int × Int)
 | 0, _, _, _, _ => none
 | k + 1, x0, x6, x7, x8 => if x8 < (x0.size : Int) then (if 0 ≤ x8 then (if x8 ≤ (x0.size : Int) then ((strings_HasSuffix.f x0 (x0.extract 0 (x8 : Int).toNat)).bind fun t500 => (if t500 = true then ((impl_covered.f k x0 (([x0.extract 0 (x8 : Int).toNat] : List ByteArray))).bind fun t504 => (impl_BestBorder.l1 k x0 x6 x7 x8 (x0.extract 0 (x8 : Int).toNat) 0 t504 (t504.length : Int) 0)) else (impl_BestBorder.l0 k x0 x6 x7 (wrap64 (x8 + 1))))) else (none)) else (none)) else (if x6.toList = ([] : List UInt8) then (some ((⟨#[]⟩ : ByteArray), 0, 4)) else (some (x6, x7, 0)))
def impl_BestBorder.l1 : Nat → ByteArray → ByteArray → Int → Int → ByteArray → Int → List Bool → Int → Int → Option (ByteArray × Int × Int)
 | 0, _, _, _, _, _, _, _, _, _ => none
 | k + 1, x0, x6, x7, x8, x9, x10, x35, x36, x37 => if x37 < x36 then (if 0 ≤ x37 then (if x37 < (x35.length : Int) then (if rdOf false x35 x37 = true then (impl_BestBorder.l1 k x0 x6 x7 x8 x9 (wrap64 (x10 + 1)) x35 x36 (wrap64 (x37 + 1))) else (impl_BestBorder.l1 k x0 x6 x7 x8 x9 x10 x35 x36 (wrap64 (x37 + 1)))) else (none)) else (none)) else (if x10 > x7 then (impl_BestBorder.l0 k x0 x9 x10 (wrap64 (x8 + 1))) else (impl_BestBorder.l0 k x0 x6 x7 (wrap64 (x8 + 1))))
end
def impl_BestBorder.f (k : Nat) (a0 : ByteArray) : Option (ByteArray × Int × Int) := (impl_wordCode.f k (impl_always.f) (([a0] : List ByteArray))).bind fun t499 => (if t499 = 0 then (impl_BestBorder.l0 k a0 (⟨#[]⟩ : ByteArray) 0 1) else (some ((⟨#[]⟩ : ByteArray), 0, t499)))
theorem impl_BestBorder.mono_l : ∀ k, (∀ y0 y1 y2 y3, LeO (impl_BestBorder.l0 k y0 y1 y2 y3) (impl_BestBorder.l0 (k + 1) y0 y1 y2 y3)) ∧ (∀ y0 y1 y2 y3 y4 y5 y6 y7 y8, LeO (impl_BestBorder.l1 k y0 y1 y2 y3 y4 y5 y6 y7 y8) (impl_BestBorder.l1 (k + 1) y0 y1 y2 y3 y4 y5 y6 y7 y8))
 | 0 => ⟨fun _ _ _ _ r h => by simp [impl_BestBorder.l0] at h, fun _ _ _ _ _ _ _ _ _ r h => by simp [impl_BestBorder.l1] at h⟩
 | k + 1 => by
  obtain ⟨ih0, ih1⟩ := impl_BestBorder.mono_l k
  refine ⟨?_, ?_⟩
  all_goals intros
  all_goals first | unfold impl_BestBorder.l0 | unfold impl_BestBorder.l1
  all_goals repeat' first
  | (with_reducible exact ih0 _ _ _ _)
  | (with_reducible exact ih1 _ _ _ _ _ _ _ _ _)
  | (with_reducible exact impl_covered.mono _ _ _)
  | (with_reducible exact LeO.refl _)
  | (with_reducible exact LeO.none _)
  | (with_reducible refine LeO.ite ?_ ?_)
  | (with_reducible refine LeO.bind ?_ (fun _ => ?_))
  | refine impl_wordCode.monoP ?_
theorem impl_BestBorder.mono : ∀ a0 k, LeO (impl_BestBorder.f k a0) (impl_BestBorder.f (k + 1) a0) := by
 intro a0 k
 obtain ⟨ih0, ih1⟩ := impl_BestBorder.mono_l k
 unfold impl_BestBorder.f
 repeat' first
   | (with_reducible exact ih0 _ _ _ _)
   | (with_reducible exact ih1 _ _ _ _ _ _ _ _ _)
   | (with_reducible exact impl_covered.mono _ _ _)
   | (with_reducible exact LeO.refl _)
   | (with_reducible exact LeO.none _)
   | (with_reducible refine LeO.ite ?_ ?_)
   | (with_reducible refine LeO.bind ?_ (fun _ => ?_))
   | refine impl_wordCode.monoP ?_
set_option maxHeartbeats 8000000 in
set_option maxRecDepth 100000 in
theorem impl_BestBorder.calls (k : Nat) (a0 : ByteArray) (r1 : ByteArray) (r2 : Int) (r3 : Int) (w : World) (h : impl_BestBorder.f k a0 = some (r1, r2, r3)) :
  Calls Tryz.prog 12 #[.string a0] w fun e w' => e = .returned (.tuple #[.string r1, .int .i64 r2, .int .i64 r3]) ∧ Below w.heap.size w w' := by
 have HB := Aside0.mk (Below.refl w.heap.size w)
 have H : ((impl_wordCode.f k (impl_always.f) (([a0] : List ByteArray))).bind fun t499 => (if t499 = 0 then (impl_BestBorder.l0 k a0 (⟨#[]⟩ : ByteArray) 0 1) else (some ((⟨#[]⟩ : ByteArray), 0, t499)))) = some (r1, r2, r3) := h
 clear h
 obtain ⟨y496, hy496⟩ : ∃ y_ : List ByteArray, y_ = (([a0] : List ByteArray)) := ⟨_, rfl⟩
 replace H : ((impl_wordCode.f k (impl_always.f) y496).bind fun t499 => (if t499 = 0 then (impl_BestBorder.l0 k a0 (⟨#[]⟩ : ByteArray) 0 1) else (some ((⟨#[]⟩ : ByteArray), 0, t499)))) = some (r1, r2, r3) := by first | (rw [hy496]; with_reducible exact H) | (have H2_ := (Option.bind_some _ _).symm.trans H; rw [hy496]; with_reducible exact H2_) | (have H2_ := (Option.bind_some _ _).symm.trans H; with_reducible exact H2_) | with_reducible exact H | (rw [hy496]; exact H) | exact H
 have Ny496 := Aside0.mk hy496
 clear hy496
 obtain ⟨t499, A2, H⟩ := qN H
 try dsimp only at H
 by_cases c3 : t499 = 0
 rotate_left
 ·
  rw [if_neg c3] at H
  obtain ⟨c3b0, c3b1⟩ := zF c3
  simp only [Option.some.injEq, Prod.mk.injEq] at H
  obtain ⟨rfl, rfl, rfl⟩ := H
  go_enter Tryz.func12, Tryz.ntmps12
  go_wp2_with (first | ((with_reducible refine gate_dst (N := 14) rfl ?_); refine Kd.R_lit Kd.string _ 9 ?hg (N := 14) ?hd (xs := ([a0] : List ByteArray)) (inner := [.string a0]) (ok := fun _ => True) (okp := fun _ => True) ?hr ?hp (fun _ hk => hk) trivial (Below.refl _ _) (Nat.le_refl _) (by simp) ?_; (case hd => rfl); (case hg => rfl); (case hr => first | (go_simp; done) | (go_simp; rfl)); (case hp => exact (Reps.one (show Kd.M Kd.string _ _ _ a0 [.string a0] from rfl) (Reps.none _ _))); intro v497 w26 ho27 hb hg_ hnew_; clear hg_ hnew_; (first | rw [← Ny496.out] at ho27 | (simp only [Int.reduceToNat] at ho27; rw [← Ny496.out] at ho27)); have HO498 := Aside0.mk (Kd.R_lower ho27 (below_size (qB HB.out))); replace HB := Aside0.mk (below_step (qB HB.out) hb); clear hb ho27; obtain ⟨Ao28, co28, eo28⟩ := Kd.R_slice HO498.out; subst eo28) | ((with_reducible refine gate_callee (f := 30) rfl ?_); refine goesL_ (some 15) rfl rfl Tryz.func30 (by kernel_rfl) rfl #[.func (.func 31) #[] #[], .slice Ao28 y496.length co28] rfl qV ?_; (with_reducible refine (impl_wordCode.calls k (impl_always.f) 31 #[] _ _ y496 t499 _ ?side1 ?side2 ?side3 A2.out).mono ?_); (case side1 => exact qC (Kd.R_reads' HO498.out).2.2); (case side2 => exact (Kd.R_reads' HO498.out).2.1); (case side3 => exact ⟨Go.Proofs.enters_of Tryz.func31 (by kernel_rfl) rfl, fun W_ hW_ r_ h_ => (impl_always.calls  r_ W_  h_).mono (fun e_ W2_ h2_ => ⟨h2_.1, by first | exact h2_.2 | exact h2_.2.below⟩)⟩); rintro e w29 ⟨rfl, hb⟩; refine ⟨_, rfl, ?_⟩; replace HO498 := Aside0.mk (Kd.R_below (qR HO498.out) hb); replace HB := Aside0.mk (below_step (qB HB.out) hb)))
  go_ret3
  exact ⟨qE, qB HB.out⟩

 rw [if_pos c3] at H
 obtain ⟨c3b0, c3b1⟩ := zT c3
 clear c3
 have H' := Aside0.mk H
 clear H
 go_enter Tryz.func12, Tryz.ntmps12
 go_wp2_with (first | ((with_reducible refine gate_dst (N := 14) rfl ?_); refine Kd.R_lit Kd.string _ 9 ?hg (N := 14) ?hd (xs := ([a0] : List ByteArray)) (inner := [.string a0]) (ok := fun _ => True) (okp := fun _ => True) ?hr ?hp (fun _ hk => hk) trivial (Below.refl _ _) (Nat.le_refl _) (by simp) ?_; (case hd => rfl); (case hg => rfl); (case hr => first | (go_simp; done) | (go_simp; rfl)); (case hp => exact (Reps.one (show Kd.M Kd.string _ _ _ a0 [.string a0] from rfl) (Reps.none _ _))); intro v497 w4 ho5 hb hg_ hnew_; clear hg_ hnew_; (first | rw [← Ny496.out] at ho5 | (simp only [Int.reduceToNat] at ho5; rw [← Ny496.out] at ho5)); have HO498 := Aside0.mk (Kd.R_lower ho5 (below_size (qB HB.out))); replace HB := Aside0.mk (below_step (qB HB.out) hb); clear hb ho5; obtain ⟨Ao6, co6, eo6⟩ := Kd.R_slice HO498.out; subst eo6) | ((with_reducible refine gate_callee (f := 30) rfl ?_); refine goesL_ (some 15) rfl rfl Tryz.func30 (by kernel_rfl) rfl #[.func (.func 31) #[] #[], .slice Ao6 y496.length co6] rfl qV ?_; (with_reducible refine (impl_wordCode.calls k (impl_always.f) 31 #[] _ _ y496 t499 _ ?side1 ?side2 ?side3 A2.out).mono ?_); (case side1 => exact qC (Kd.R_reads' HO498.out).2.2); (case side2 => exact (Kd.R_reads' HO498.out).2.1); (case side3 => exact ⟨Go.Proofs.enters_of Tryz.func31 (by kernel_rfl) rfl, fun W_ hW_ r_ h_ => (impl_always.calls  r_ W_  h_).mono (fun e_ W2_ h2_ => ⟨h2_.1, by first | exact h2_.2 | exact h2_.2.below⟩)⟩); rintro e w7 ⟨rfl, hb⟩; refine ⟨_, rfl, ?_⟩; replace HO498 := Aside0.mk (Kd.R_below (qR HO498.out) hb); replace HB := Aside0.mk (below_step (qB HB.out) hb)))
 go_loopg [6, 7, 8] k (fun kq v6 v7 v8 w' => ∃ (x6_1 : ByteArray) (x7_1 : Int) (x8_1 : Int), v6 = .string x6_1 ∧ v7 = .int .i64 x7_1 ∧ v8 = .int .i64 x8_1 ∧ Aside0 (impl_BestBorder.l0 kq a0 x6_1 x7_1 x8_1 = some (r1, r2, r3)) ∧ Aside0 (kq ≤ k) ∧ Aside0 (Below w.heap.size w w'))
 case atStart => exact ⟨((⟨#[]⟩ : ByteArray)), (0), (1), qF, qF, qF, H', ⟨Nat.le_refl _⟩, ⟨qB HB.out⟩⟩
 case round =>
  clear H'
  obtain ⟨x6_1, x7_1, x8_1, rfl, rfl, rfl, HA, HK1, HB⟩ := hrel
  cases gk with
  | zero => exact absurd HA.out (by simp [impl_BestBorder.l0])
  | succ k1 =>
   have H := HA.out
   clear HA
   simp only [impl_BestBorder.l0] at H
   by_cases c8 : x8_1 < (a0.size : Int)
   rotate_left
   ·
    rw [if_neg c8] at H
    have c8b0 : decide (x8_1 < (a0.size : Int)) = false := decide_eq_false c8
    clear c8
    by_cases c25 : x6_1.toList = ([] : List UInt8)
    ·
     rw [if_pos c25] at H
     obtain ⟨c25b0, c25b1⟩ := zT c25
     clear c25
     simp only [Option.some.injEq, Prod.mk.injEq] at H
     obtain ⟨rfl, rfl, rfl⟩ := H
     go_wp2
     go_ret3
     exact ⟨qE, qB HB.out⟩
    rw [if_neg c25] at H
    obtain ⟨c25b0, c25b1⟩ := zF c25
    simp only [Option.some.injEq, Prod.mk.injEq] at H
    obtain ⟨rfl, rfl, rfl⟩ := H
    go_wp2
    go_ret3
    exact ⟨qE, qB HB.out⟩
   rw [if_pos c8] at H
   have c8b0 : decide (x8_1 < (a0.size : Int)) = true := decide_eq_true c8
   clear c8
   by_cases c9 : 0 ≤ x8_1
   rotate_left
   ·
    rw [if_neg c9] at H
    exact absurd H (by simp)
   rw [if_pos c9] at H
   have c9b0 := eq_true c9
   have c9b1 : decide (0 ≤ x8_1) = true := decide_eq_true c9
   clear c9
   by_cases c10 : x8_1 ≤ (a0.size : Int)
   rotate_left
   ·
    rw [if_neg c10] at H
    exact absurd H (by simp)
   rw [if_pos c10] at H
   have c10b0 := eq_true c10
   have c10b1 : decide (x8_1 ≤ (a0.size : Int)) = true := decide_eq_true c10
   clear c10
   obtain ⟨t500, A11, H⟩ := qN H
   try dsimp only at H
   by_cases c12 : t500 = true
   rotate_left
   ·
    replace c12 := Bool.eq_false_iff.mpr c12
    subst c12
    rw [if_neg (show ¬ (false = true) by decide)] at H
    have H' := Aside0.mk H
    clear H
    go_wp2_with (first | ((with_reducible refine gate_callee (f := 40) rfl ?_); refine goesL_ (some 30) rfl rfl Tryz.func40 (by kernel_rfl) rfl #[.string a0, .string (a0.extract 0 (x8_1 : Int).toNat)] rfl qV ?_; (with_reducible refine (strings_HasSuffix.calls a0 (a0.extract 0 (x8_1 : Int).toNat) false _ A11.out).mono ?_); rintro e w' ⟨rfl, ⟨nd, rfl⟩⟩; refine ⟨_, rfl, ?_⟩))
    go_roundg k1
    case measure => have := HK1.out; omega
    case rel => exact ⟨(x6_1), (x7_1), (wrap64 (x8_1 + 1)), qF, qF, qF, H', ⟨by have := HK1.out; omega⟩, ⟨qB HB.out⟩⟩
   subst c12
   rw [if_pos rfl] at H
   obtain ⟨y501, hy501⟩ : ∃ y_ : List ByteArray, y_ = (([a0.extract 0 (x8_1 : Int).toNat] : List ByteArray)) := ⟨_, rfl⟩
   replace H : ((impl_covered.f k1 a0 y501).bind fun t504 => (impl_BestBorder.l1 k1 a0 x6_1 x7_1 x8_1 (a0.extract 0 (x8_1 : Int).toNat) 0 t504 (t504.length : Int) 0)) = some (r1, r2, r3) := by first | (rw [hy501]; with_reducible exact H) | (have H2_ := (Option.bind_some _ _).symm.trans H; rw [hy501]; with_reducible exact H2_) | (have H2_ := (Option.bind_some _ _).symm.trans H; with_reducible exact H2_) | with_reducible exact H | (rw [hy501]; exact H) | exact H
   have Ny501 := Aside0.mk hy501
   clear hy501
   obtain ⟨t504, A13, H⟩ := qN H
   try dsimp only at H
   have H' := Aside0.mk H
   clear H
   go_wp2_with (first | ((with_reducible refine gate_callee (f := 40) rfl ?_); refine goesL_ (some 30) rfl rfl Tryz.func40 (by kernel_rfl) rfl #[.string a0, .string (a0.extract 0 (x8_1 : Int).toNat)] rfl qV ?_; (with_reducible refine (strings_HasSuffix.calls a0 (a0.extract 0 (x8_1 : Int).toNat) true _ A11.out).mono ?_); rintro e w' ⟨rfl, ⟨nd, rfl⟩⟩; refine ⟨_, rfl, ?_⟩) | ((with_reducible refine gate_dst (N := 34) rfl ?_); refine Kd.R_lit Kd.string _ 9 ?hg (N := 34) ?hd (xs := ([a0.extract 0 (x8_1 : Int).toNat] : List ByteArray)) (inner := [.string (a0.extract 0 (x8_1 : Int).toNat)]) (ok := fun _ => True) (okp := fun _ => True) ?hr ?hp (fun _ hk => hk) trivial (Below.refl _ _) (Nat.le_refl _) (by simp) ?_; (case hd => rfl); (case hg => rfl); (case hr => first | (go_simp; done) | (go_simp; rfl)); (case hp => exact (Reps.one (show Kd.M Kd.string _ _ _ (a0.extract 0 (x8_1 : Int).toNat) [.string (a0.extract 0 (x8_1 : Int).toNat)] from rfl) (Reps.none _ _))); intro v502 w14 ho15 hb hg_ hnew_; clear hg_ hnew_; (first | rw [← Ny501.out] at ho15 | (simp only [Int.reduceToNat] at ho15; rw [← Ny501.out] at ho15)); have HO503 := Aside0.mk (Kd.R_lower ho15 (below_size (qB HB.out))); replace HB := Aside0.mk (below_step (qB HB.out) hb); clear hb ho15; obtain ⟨Ao16, co16, eo16⟩ := Kd.R_slice HO503.out; subst eo16) | ((with_reducible refine gate_callee (f := 41) rfl ?_); refine goesL_ (some 35) rfl rfl Tryz.func41 (by kernel_rfl) rfl #[.string a0, .slice Ao16 y501.length co16] rfl qV ?_; (with_reducible refine (impl_covered.calls k1 a0 _ _ y501 t504 _ ?side1 ?side2 A13.out).mono ?_); (case side1 => exact qC (Kd.R_reads' HO503.out).2.2); (case side2 => exact (Kd.R_reads' HO503.out).2.1); rintro e w17 ⟨v505, rfl, ho0, hb⟩; refine ⟨_, rfl, ?_⟩; replace HO503 := Aside0.mk (Kd.R_below (qR HO503.out) hb); have HO506 := Aside0.mk (Kd.R_lower ho0 (below_size (qB HB.out))); replace HB := Aside0.mk (below_step (qB HB.out) hb); obtain ⟨Ao18, co18, eo18⟩ := Kd.R_slice HO506.out; subst eo18))
   go_loopg [10, 37] k1 (fun kq v10 v37 w' => ∃ (x10_2 : Int) (x37_2 : Int), v10 = .int .i64 x10_2 ∧ v37 = .int .i64 x37_2 ∧ Aside0 (impl_BestBorder.l1 kq a0 x6_1 x7_1 x8_1 (a0.extract 0 (x8_1 : Int).toNat) x10_2 t504 (t504.length : Int) x37_2 = some (r1, r2, r3)) ∧ Aside0 (kq ≤ k1) ∧ Aside0 (Kd.R Kd.bool 4 w' w.heap.size (fun _ => True) (.slice Ao18 t504.length co18) t504) ∧ Aside0 (Below w.heap.size w w'))
   case atStart => exact ⟨(0), (0), qF, qF, H', ⟨Nat.le_refl _⟩, ⟨qR HO506.out⟩, ⟨qB HB.out⟩⟩
   case round =>
    clear H'
    obtain ⟨x10_2, x37_2, rfl, rfl, HA, HK2, HO_35, HB⟩ := hrel
    cases gk with
    | zero => exact absurd HA.out (by simp [impl_BestBorder.l1])
    | succ k2 =>
     have H := HA.out
     clear HA
     simp only [impl_BestBorder.l1] at H
     by_cases c19 : x37_2 < (t504.length : Int)
     rotate_left
     ·
      rw [if_neg c19] at H
      have c19b0 : decide (x37_2 < (t504.length : Int)) = false := decide_eq_false c19
      clear c19
      by_cases c24 : x10_2 > x7_1
      ·
       rw [if_pos c24] at H
       have c24b0 : decide (x7_1 < x10_2) = true := decide_eq_true c24
       clear c24
       have H' := Aside0.mk H
       clear H
       go_wp2
       go_roundg k2
       case measure => have := HK1.out; have := HK2.out; omega
       case rel => exact ⟨((a0.extract 0 (x8_1 : Int).toNat)), (x10_2), (wrap64 (x8_1 + 1)), qF, qF, qF, H', ⟨by have := HK1.out; have := HK2.out; omega⟩, ⟨qB HB.out⟩⟩
      rw [if_neg c24] at H
      have c24b0 : decide (x7_1 < x10_2) = false := decide_eq_false c24
      clear c24
      have H' := Aside0.mk H
      clear H
      go_wp2
      go_roundg k2
      case measure => have := HK1.out; have := HK2.out; omega
      case rel => exact ⟨(x6_1), (x7_1), (wrap64 (x8_1 + 1)), qF, qF, qF, H', ⟨by have := HK1.out; have := HK2.out; omega⟩, ⟨qB HB.out⟩⟩
     rw [if_pos c19] at H
     have c19b0 : decide (x37_2 < (t504.length : Int)) = true := decide_eq_true c19
     clear c19
     by_cases c20 : 0 ≤ x37_2
     rotate_left
     ·
      rw [if_neg c20] at H
      exact absurd H (by simp)
     rw [if_pos c20] at H
     have c20b0 : decide (0 ≤ x37_2) = true := decide_eq_true c20
     clear c20
     by_cases c21 : x37_2 < (t504.length : Int)
     rotate_left
     ·
      rw [if_neg c21] at H
      exact absurd H (by simp)
     rw [if_pos c21] at H
     have c21b0 : decide (x37_2 < (t504.length : Int)) = true := decide_eq_true c21
     clear c21
     obtain ⟨bq22, hbq22⟩ : ∃ b_ : Bool, b_ = (rdOf false t504 x37_2) := ⟨_, rfl⟩
     replace H : (if bq22 = true then (impl_BestBorder.l1 k2 a0 x6_1 x7_1 x8_1 (a0.extract 0 (x8_1 : Int).toNat) (wrap64 (x10_2 + 1)) t504 (t504.length : Int) (wrap64 (x37_2 + 1))) else (impl_BestBorder.l1 k2 a0 x6_1 x7_1 x8_1 (a0.extract 0 (x8_1 : Int).toNat) x10_2 t504 (t504.length : Int) (wrap64 (x37_2 + 1)))) = some (r1, r2, r3) := by rw [← hbq22] at H; exact H
     have Nbq22 := Aside0.mk hbq22
     clear hbq22
     by_cases c23 : bq22 = true
     ·
      subst c23
      rw [if_pos rfl] at H
      have H' := Aside0.mk H
      clear H
      have p507 : 0 ≤ (x37_2 : Int) := of_decide_eq_true (by first | (with_reducible assumption) | assumption)
      have q507 : x37_2 < (t504.length : Int) := of_decide_eq_true (by first | (with_reducible assumption) | assumption)
      obtain ⟨ad507, e507, hx507_0⟩ := Kd.at_bool (Kd.R_reads' HO_35.out).2.2 x37_2 p507 q507
      (try rw [← Nbq22.out] at hx507_0)
      cases e507
      replace p507 := eq_true p507
      replace q507 := eq_true q507
      go_wp2
      go_roundg k2
      case measure => have := HK1.out; have := HK2.out; omega
      case rel => exact ⟨(wrap64 (x10_2 + 1)), (wrap64 (x37_2 + 1)), qF, qF, H', ⟨by have := HK1.out; have := HK2.out; omega⟩, ⟨qR HO_35.out⟩, ⟨qB HB.out⟩⟩
     replace c23 := Bool.eq_false_iff.mpr c23
     subst c23
     rw [if_neg (show ¬ (false = true) by decide)] at H
     have H' := Aside0.mk H
     clear H
     have p507 : 0 ≤ (x37_2 : Int) := of_decide_eq_true (by first | (with_reducible assumption) | assumption)
     have q507 : x37_2 < (t504.length : Int) := of_decide_eq_true (by first | (with_reducible assumption) | assumption)
     obtain ⟨ad507, e507, hx507_0⟩ := Kd.at_bool (Kd.R_reads' HO_35.out).2.2 x37_2 p507 q507
     (try rw [← Nbq22.out] at hx507_0)
     cases e507
     replace p507 := eq_true p507
     replace q507 := eq_true q507
     go_wp2
     go_roundg k2
     case measure => have := HK1.out; have := HK2.out; omega
     case rel => exact ⟨(x10_2), (wrap64 (x37_2 + 1)), qF, qF, H', ⟨by have := HK1.out; have := HK2.out; omega⟩, ⟨qR HO_35.out⟩, ⟨qB HB.out⟩⟩
end Go.Proofs.YtcfphjjdbccnoaaGreat.PF
