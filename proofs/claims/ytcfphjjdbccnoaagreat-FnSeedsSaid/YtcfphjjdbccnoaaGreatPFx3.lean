-- an own text, written by a program of this place (wip/tools)
import Derived.Test.YtcfphjjdbccnoaaGreatPFx0
import Derived.Test.YtcfphjjdbccnoaaGreatPFx1
import Derived.Test.YtcfphjjdbccnoaaGreatPFx2
namespace Go.Proofs.YtcfphjjdbccnoaaGreat.PF
open Go.RowKit Go.Proofs.YtcfphjjdbccnoaaGreatW.PrintWords Go.Proofs.YtcfphjjdbccnoaaGreatW.PrintLast Go.Proofs.YtcfphjjdbccnoaaGreatW.PrintMore
attribute [local go_sem] max2_int min2_int max_two min_two max_three min_three max_four min_four   -- for this text's walks alone
set_option linter.unusedVariables false
set_option linter.unusedSimpArgs false

/-! ### slices_Reverse_int64_int64: function 46 -/
def slices_Reverse_int64_int64.l0 : Nat → List Int → Int → Int → Option (List Int)
 | 0, _, _, _ => none
 | k + 1, x0, x2, x3 => if x2 < x3 then (if 0 ≤ x3 then (if x3 < (x0.length : Int) then (if 0 ≤ x2 then (if x2 < (x0.length : Int) then (slices_Reverse_int64_int64.l0 k ((x0.set (x2 : Int).toNat (rd x0 x3)).set (x3 : Int).toNat (rd x0 x2)) (wrap64 (x2 + 1)) (wrap64 (x3 - 1))) else (none)) else (none)) else (none)) else (none)) else (some x0)
def slices_Reverse_int64_int64.f (k : Nat) (l0 : List Int) : Option (List Int) := slices_Reverse_int64_int64.l0 k l0 0 (wrap64 ((l0.length : Int) - 1))
theorem slices_Reverse_int64_int64.mono_l : ∀ k, (∀ y0 y1 y2, LeO (slices_Reverse_int64_int64.l0 k y0 y1 y2) (slices_Reverse_int64_int64.l0 (k + 1) y0 y1 y2))
 | 0 => fun _ _ _ r h => by simp [slices_Reverse_int64_int64.l0] at h
 | k + 1 => by
  have ih0 := slices_Reverse_int64_int64.mono_l k
  ·
   intro y0 y1 y2
   unfold slices_Reverse_int64_int64.l0
   with_reducible repeat' first
   | exact ih0 _ _ _
   | exact LeO.refl _
   | exact LeO.none _
   | refine LeO.ite ?_ ?_
   | refine LeO.bind ?_ (fun _ => ?_)
theorem slices_Reverse_int64_int64.mono : ∀ a0 k, LeO (slices_Reverse_int64_int64.f k a0) (slices_Reverse_int64_int64.f (k + 1) a0) := by
 intro a0 k
 have ih0 := slices_Reverse_int64_int64.mono_l k
 unfold slices_Reverse_int64_int64.f
 with_reducible repeat' first
   | exact ih0 _ _ _
   | exact LeO.refl _
   | exact LeO.none _
   | refine LeO.ite ?_ ?_
   | refine LeO.bind ?_ (fun _ => ?_)
def slices_Reverse_int64_int64.T3 : Bool × List (List Nat × List Nat) := (true, [([], []), ([], []), ([], []), ([], []), ([], []), ([], []), ([4, 5], [4, 5]), ([6], [6]), ([], []), ([], []), ([8, 9], [8, 9]), ([10], [10]), ([0, 1, 0, 1, 4, 5, 6, 7, 11], [0, 1]), ([12, 7, 0, 1, 4, 5, 6, 7, 11], [7, 12]), ([2, 3, 0, 1, 2, 3, 4, 5, 6, 7, 8, 9, 10, 11, 12, 13], [2, 3]), ([14, 11, 13, 0, 1, 2, 3, 4, 5, 6, 7, 8, 9, 10, 11, 12, 13], [11, 14])])
def slices_Reverse_int64_int64.B3 : List Nat := [0, 0, 0, 0, 0, 0, 48, 112, 0, 0, 768, 1792, 4083, 8179, 16383, 32767]
theorem slices_Reverse_int64_int64.tab3 : rtab .any (opsOf Tryz.f46 3) = slices_Reverse_int64_int64.T3 := by kernel_rfl
theorem slices_Reverse_int64_int64.bits3 : waitsOk slices_Reverse_int64_int64.T3.2 slices_Reverse_int64_int64.B3 = true := by kernel_rfl
set_option maxHeartbeats 8000000 in
set_option maxRecDepth 100000 in
theorem slices_Reverse_int64_int64.calls (k : Nat) (P0_ : Nat → Prop) (u9000_ : Value) (l0 : List Int) (r : List Int) (w0 w : World) (hB : Below w0.heap.size w0 w) (ho0 : Kd.R (Kd.int .i64) 2 w w0.heap.size P0_ u9000_ l0) (h : slices_Reverse_int64_int64.f k l0 = some r) :
  Calls Tryz.prog 46 #[u9000_] w fun e w' => e = .returned (.tuple #[]) ∧ Kd.R (Kd.int .i64) 2 w' w0.heap.size (fun k_ => (P0_ k_ ∨ w.heap.size ≤ k_)) u9000_ r ∧ Below w0.heap.size w0 w' ∧ Kept w w' (fun k_ => P0_ k_) := by
 have HO0 := Aside0.mk (show Kd.R (Kd.int .i64) 2 w w0.heap.size (fun k_ => (P0_ k_ ∨ w.heap.size ≤ k_)) u9000_ l0 from Kd.R_mono ho0 (fun k_ hk => (.inl hk)))
 have HK := Aside0.mk (Kept.refl w (fun k_ => P0_ k_))
 have HW0 := Aside0.mk hB.size
 have HB := Aside0.mk hB
 clear hB
 have H : (slices_Reverse_int64_int64.l0 k l0 0 (wrap64 ((l0.length : Int) - 1))) = some r := h
 clear h
 have H' := Aside0.mk H
 clear H
 obtain ⟨Ao2, co2, eo2⟩ := Kd.R_slice HO0.out
 subst eo2
 go_enter Tryz.func46, Tryz.ntmps46
 go_wp2
 go_loopg [2, 3] k (fun kq v2 v3 w' => ∃ (x0_1 : List Int) (x2_1 : Int) (x3_1 : Int), v2 = .int .i64 x2_1 ∧ v3 = .int .i64 x3_1 ∧ Aside0 (slices_Reverse_int64_int64.l0 kq x0_1 x2_1 x3_1 = some r) ∧ Aside0 (kq ≤ k) ∧ Aside0 (Kd.R (Kd.int .i64) 2 w' w0.heap.size (fun k_ => (P0_ k_ ∨ w.heap.size ≤ k_)) (.slice Ao2 l0.length co2) x0_1) ∧ Aside0 (Kept w w' (fun k_ => P0_ k_)) ∧ Aside0 (Below w0.heap.size w0 w'))
 case atStart => exact ⟨(l0), (0), (wrap64 ((l0.length : Int) - 1)), qF, qF, H', ⟨Nat.le_refl _⟩, ⟨qR HO0.out⟩, ⟨by repeat (first | (with_reducible first | exact HK.out | apply Kept.alloc | apply Kept.drewN | apply Kept.drew) | exact HK.out)⟩, ⟨qB HB.out⟩⟩
 case round =>
  clear H'
  obtain ⟨x0_1, x2_1, x3_1, rfl, rfl, HA, HK1, HO_0, HK, HB⟩ := hrel
  have hl0_1 := (Kd.R_reads' HO_0.out).1
  rw [hl0_1] at HO_0
  (try simp only [hl0_1])
  cases gk with
  | zero => exact absurd HA.out (by simp [slices_Reverse_int64_int64.l0])
  | succ k1 =>
   have H := HA.out
   clear HA
   simp only [slices_Reverse_int64_int64.l0] at H
   by_cases c3 : x2_1 < x3_1
   rotate_left
   ·
    rw [if_neg c3] at H
    have c3b0 : decide (x2_1 < x3_1) = false := decide_eq_false c3
    clear c3
    obtain rfl := Option.some.inj H
    go_wp2
    first | go_end0 | ((try simp only [Exit.inBlock, Exit.then]); refine bodyPost_ret (results_none rfl _ _ _) rfl ?_)
    exact ⟨qE, (by first | exact (qR HO_0.out) | (simp only [hl0_1]; exact (qR HO_0.out))), qB HB.out, by repeat (first | (with_reducible first | exact HK.out | apply Kept.alloc | apply Kept.drewN | apply Kept.drew) | exact HK.out)⟩

   rw [if_pos c3] at H
   have c3b0 : decide (x2_1 < x3_1) = true := decide_eq_true c3
   clear c3
   by_cases c4 : 0 ≤ x3_1
   rotate_left
   ·
    rw [if_neg c4] at H
    exact absurd H (by simp)
   rw [if_pos c4] at H
   have c4b0 : decide (0 ≤ x3_1) = true := decide_eq_true c4
   clear c4
   by_cases c5 : x3_1 < (x0_1.length : Int)
   rotate_left
   ·
    rw [if_neg c5] at H
    exact absurd H (by simp)
   rw [if_pos c5] at H
   have c5b0 : decide (x3_1 < (x0_1.length : Int)) = true := decide_eq_true c5
   clear c5
   by_cases c6 : 0 ≤ x2_1
   rotate_left
   ·
    rw [if_neg c6] at H
    exact absurd H (by simp)
   rw [if_pos c6] at H
   have c6b0 : decide (0 ≤ x2_1) = true := decide_eq_true c6
   clear c6
   by_cases c7 : x2_1 < (x0_1.length : Int)
   rotate_left
   ·
    rw [if_neg c7] at H
    exact absurd H (by simp)
   rw [if_pos c7] at H
   have c7b0 : decide (x2_1 < (x0_1.length : Int)) = true := decide_eq_true c7
   clear c7
   obtain ⟨y540, hy540⟩ : ∃ y_ : List Int, y_ = (x0_1.set (x2_1 : Int).toNat (rd x0_1 x3_1)) := ⟨_, rfl⟩
   replace H : (slices_Reverse_int64_int64.l0 k1 (y540.set (x3_1 : Int).toNat (rd x0_1 x2_1)) (wrap64 (x2_1 + 1)) (wrap64 (x3_1 - 1))) = some r := by first | (rw [hy540]; with_reducible exact H) | (have H2_ := (Option.bind_some _ _).symm.trans H; rw [hy540]; with_reducible exact H2_) | (have H2_ := (Option.bind_some _ _).symm.trans H; with_reducible exact H2_) | with_reducible exact H | (rw [hy540]; exact H) | exact H
   have Ny540 := Aside0.mk hy540
   clear hy540
   obtain ⟨y541, hy541⟩ : ∃ y_ : List Int, y_ = (y540.set (x3_1 : Int).toNat (rd x0_1 x2_1)) := ⟨_, rfl⟩
   replace H : (slices_Reverse_int64_int64.l0 k1 y541 (wrap64 (x2_1 + 1)) (wrap64 (x3_1 - 1))) = some r := by first | (rw [hy541]; with_reducible exact H) | (have H2_ := (Option.bind_some _ _).symm.trans H; rw [hy541]; with_reducible exact H2_) | (have H2_ := (Option.bind_some _ _).symm.trans H; with_reducible exact H2_) | with_reducible exact H | (rw [hy541]; exact H) | exact H
   have Ny541 := Aside0.mk hy541
   clear hy541
   have H' := Aside0.mk H
   clear H
   try go_wp2
   have n0_ := Aside0.mk (Kd.R_drew HO_0.out)
   have n1_ := Aside0.mk (Kept.drew HK.out)
   have n2_ := Aside0.mk (below_drew1 HB.out)
   clear HO_0
   clear HK
   clear HB
   have HO_0 := n0_
   have HK := n1_
   have HB := n2_
   clear n0_ n1_ n2_
   have p538 : 0 ≤ (x3_1 : Int) := of_decide_eq_true (by first | (with_reducible assumption) | assumption)
   have q538 : x3_1 < (x0_1.length : Int) := of_decide_eq_true (by first | (with_reducible assumption) | assumption)
   obtain ⟨ad538, e538, hx538_0⟩ := Kd.at_int (Kd.R_reads' HO_0.out).2.2 x3_1 p538 q538
   cases e538
   replace p538 := eq_true p538
   replace q538 := eq_true q538
   have p539 : 0 ≤ (x2_1 : Int) := of_decide_eq_true (by first | (with_reducible assumption) | assumption)
   have q539 : x2_1 < (x0_1.length : Int) := of_decide_eq_true (by first | (with_reducible assumption) | assumption)
   obtain ⟨ad539, e539, hx539_0⟩ := Kd.at_int (Kd.R_reads' HO_0.out).2.2 x2_1 p539 q539
   obtain rfl : ad538 = ad539 := (by injection e539)
   replace p539 := eq_true p539
   replace q539 := eq_true q539
   have p8 : 0 ≤ (x2_1 : Int) := of_decide_eq_true (by first | (with_reducible assumption) | assumption)
   have q8 : (x2_1 : Int) < ((x0_1.length : Int) : Int) := of_decide_eq_true (by first | (with_reducible assumption) | assumption)
   obtain ⟨go8, co8, eo8, gb8, gl8, cl8, HG8⟩ := Kd.R_form HO_0.out (by omega)
   (first | cases eo8 | (injection eo8 with ea_ en_ ec_; (first | subst ea_ | (injection ea_ with ea_; subst ea_)); subst ec_; clear en_))
   have GB8 := Aside0.mk gb8
   have GG8 := Aside0.mk HG8
   clear gb8 gl8 HG8
   have HMgo8 := Aside0.mk (show (P0_ go8 ∨ w.heap.size ≤ go8) from (HO_0.out.1 _ rfl))
   (first | simp only [add_plain] at hx538_0 | skip)
   (first | simp only [add_plain] at hx539_0 | skip)
   obtain ⟨hx8_0, hf8_0⟩ := Kd.R_celln 0 HO_0.out (x2_1 : Int) p8 q8
   replace p8 := eq_true p8
   replace q8 := eq_true q8
   have HP11 := Kd.R_putn HO_0.out (x2_1 : Int) (rd x0_1 x3_1)
   rw [← Ny540.out] at HP11
   have HQ11 := Aside0.mk HP11
   clear HP11
   have p9 : 0 ≤ (x3_1 : Int) := of_decide_eq_true (by first | (with_reducible assumption) | assumption)
   have q9 : (x3_1 : Int) < ((x0_1.length : Int) : Int) := of_decide_eq_true (by first | (with_reducible assumption) | assumption)
   obtain ⟨hx9_0, hf9_0⟩ := Kd.R_celln 0 HQ11.out (x3_1 : Int) p9 q9
   replace p9 := eq_true p9
   replace q9 := eq_true q9
   have HP12 := Kd.R_putn HQ11.out (x3_1 : Int) (rd x0_1 x2_1)
   rw [← Ny541.out] at HP12
   have HQ12 := Aside0.mk HP12
   clear HP12
   refine start_ (n := 16) (S := fun w' => w'.cell? ⟨go8, (x3_1).toNat, none⟩ = some (.int .i64 (rd x0_1 x3_1)) ∧ w'.cell? ⟨go8, (x2_1).toNat, none⟩ = some (.int .i64 (rd x0_1 x2_1))) (ds := [13, 15]) #[false, false, false, false, false, false, false, false, false, false, false, false, false, false, false, false] (by kernel_rfl) rfl rfl ⟨hx538_0, hx539_0⟩ (fun hHeld => ?_); refine with_tabW slices_Reverse_int64_int64.tab3 slices_Reverse_int64_int64.bits3 (fun HT_ HW_ => ?_)
   generalize wr.drew = w10 at HO_0 HK HB GG8 HQ11 HQ12 hf8_0 hf9_0 hx538_0 hx539_0 hx8_0 hx9_0 hHeld ⊢
   refine pure_ (i := 0) (N := some 14) (v := ?_) (a' := ?_) #[true, false, false, false, false, false, false, false, false, false, false, false, false, false, false, false] rfl rfl (any_of HT_.out (by kernel_rfl)) (fun _ _ _ h => h) (Or.inl ⟨by rfl, ?_⟩) ?_ ?_
   rotate_left
   ·
    intro w'
    go_simp
    with_reducible rfl
   rotate_left
   ·
    simp only [Act.put, List.setIfInBounds_toArray, List.set_cons_zero, List.set_cons_succ, i64_w, i32_w]
    rfl
   refine pure_ (i := 1) (N := some 15) (v := ?_) (a' := ?_) #[true, true, false, false, false, false, false, false, false, false, false, false, false, false, false, false] rfl rfl (any_of HT_.out (by kernel_rfl)) (fun _ _ _ h => h) (Or.inl ⟨by rfl, ?_⟩) ?_ ?_
   rotate_left
   ·
    intro w'
    go_simp
    with_reducible rfl
   rotate_left
   ·
    simp only [Act.put, List.setIfInBounds_toArray, List.set_cons_zero, List.set_cons_succ, i64_w, i32_w]
    rfl
   refine pure_ (i := 2) (N := some 16) (v := ?_) (a' := ?_) #[true, true, true, false, false, false, false, false, false, false, false, false, false, false, false, false] rfl rfl (any_of HT_.out (by kernel_rfl)) (fun _ _ _ h => h) (Or.inl ⟨by rfl, ?_⟩) ?_ ?_
   rotate_left
   ·
    intro w'
    go_simp
    with_reducible rfl
   rotate_left
   ·
    simp only [Act.put, List.setIfInBounds_toArray, List.set_cons_zero, List.set_cons_succ, i64_w, i32_w]
    rfl
   refine pure_ (i := 3) (N := some 17) (v := ?_) (a' := ?_) #[true, true, true, true, false, false, false, false, false, false, false, false, false, false, false, false] rfl rfl (any_of HT_.out (by kernel_rfl)) (fun _ _ _ h => h) (Or.inl ⟨by rfl, ?_⟩) ?_ ?_
   rotate_left
   ·
    intro w'
    go_simp
    with_reducible rfl
   rotate_left
   ·
    simp only [Act.put, List.setIfInBounds_toArray, List.set_cons_zero, List.set_cons_succ, i64_w, i32_w]
    rfl
   refine pure_ (i := 4) (N := some 18) (v := ?_) (a' := ?_) #[true, true, true, true, true, false, false, false, false, false, false, false, false, false, false, false] rfl rfl (any_of HT_.out (by kernel_rfl)) (fun _ _ _ h => h) (Or.inl ⟨by rfl, ?_⟩) ?_ ?_
   rotate_left
   ·
    intro w'
    go_simp
    with_reducible rfl
   rotate_left
   ·
    simp only [Act.put, List.setIfInBounds_toArray, List.set_cons_zero, List.set_cons_succ, i64_w, i32_w]
    rfl
   refine pure_ (i := 5) (N := some 19) (v := ?_) (a' := ?_) #[true, true, true, true, true, true, false, false, false, false, false, false, false, false, false, false] rfl rfl (any_of HT_.out (by kernel_rfl)) (fun _ _ _ h => h) (Or.inl ⟨by rfl, ?_⟩) ?_ ?_
   rotate_left
   ·
    intro w'
    go_simp
    with_reducible rfl
   rotate_left
   ·
    simp only [Act.put, List.setIfInBounds_toArray, List.set_cons_zero, List.set_cons_succ, i64_w, i32_w]
    rfl
   refine pure_ (i := 6) (N := some 20) (v := ?_) (a' := ?_) #[true, true, true, true, true, true, true, false, false, false, false, false, false, false, false, false] rfl rfl (any_of HT_.out (by kernel_rfl)) (fun _ _ _ h => h) (Or.inl ⟨by rfl, ?_⟩) ?_ ?_
   rotate_left
   ·
    intro w'
    go_simp
    with_reducible rfl
   rotate_left
   ·
    simp only [Act.put, List.setIfInBounds_toArray, List.set_cons_zero, List.set_cons_succ, i64_w, i32_w]
    rfl
   refine pure_ (i := 8) (N := some 22) (v := ?_) (a' := ?_) #[true, true, true, true, true, true, true, false, true, false, false, false, false, false, false, false] rfl rfl (any_of HT_.out (by kernel_rfl)) (fun _ _ _ h => h) (Or.inl ⟨by rfl, ?_⟩) ?_ ?_
   rotate_left
   ·
    intro w'
    go_simp
    with_reducible rfl
   rotate_left
   ·
    simp only [Act.put, List.setIfInBounds_toArray, List.set_cons_zero, List.set_cons_succ, i64_w, i32_w]
    rfl
   refine pure_ (i := 9) (N := some 23) (v := ?_) (a' := ?_) #[true, true, true, true, true, true, true, false, true, true, false, false, false, false, false, false] rfl rfl (any_of HT_.out (by kernel_rfl)) (fun _ _ _ h => h) (Or.inl ⟨by rfl, ?_⟩) ?_ ?_
   rotate_left
   ·
    intro w'
    go_simp
    with_reducible rfl
   rotate_left
   ·
    simp only [Act.put, List.setIfInBounds_toArray, List.set_cons_zero, List.set_cons_succ, i64_w, i32_w]
    rfl
   refine pure_ (i := 10) (N := some 24) (v := ?_) (a' := ?_) #[true, true, true, true, true, true, true, false, true, true, true, false, false, false, false, false] rfl rfl (any_of HT_.out (by kernel_rfl)) (fun _ _ _ h => h) (Or.inl ⟨by rfl, ?_⟩) ?_ ?_
   rotate_left
   ·
    intro w'
    go_simp
    with_reducible rfl
   rotate_left
   ·
    simp only [Act.put, List.setIfInBounds_toArray, List.set_cons_zero, List.set_cons_succ, i64_w, i32_w]
    rfl
   refine take_ (i := 7) (N := some 21) (v := ?_) (a' := ?_) #[true, true, true, true, true, true, true, true, true, true, true, false, false, false, false, false] rfl rfl (take_ofW HT_.out HW_.out (by kernel_rfl)) (fun _ _ _ h => h) (Or.inl ⟨by rfl, ?_⟩) hHeld ?_ ?_
   rotate_left
   ·
    rintro w' ⟨s0, s1⟩
    go_simp
    with_reducible rfl
   rotate_left
   ·
    simp only [Act.put, List.setIfInBounds_toArray, List.set_cons_zero, List.set_cons_succ, i64_w, i32_w]
    rfl
   refine take_ (i := 11) (N := some 25) (v := ?_) (a' := ?_) #[true, true, true, true, true, true, true, true, true, true, true, true, false, false, false, false] rfl rfl (take_ofW HT_.out HW_.out (by kernel_rfl)) (fun _ _ _ h => h) (Or.inl ⟨by rfl, ?_⟩) hHeld ?_ ?_
   rotate_left
   ·
    rintro w' ⟨s0, s1⟩
    go_simp
    with_reducible rfl
   rotate_left
   ·
    simp only [Act.put, List.setIfInBounds_toArray, List.set_cons_zero, List.set_cons_succ, i64_w, i32_w]
    rfl
   refine pure_ (i := 12) (N := some 26) (v := ?_) (a' := ?_) #[true, true, true, true, true, true, true, true, true, true, true, true, true, false, false, false] rfl rfl (any_of HT_.out (by kernel_rfl)) (fun _ _ _ h => h) (Or.inl ⟨by rfl, ?_⟩) ?_ ?_
   rotate_left
   ·
    intro w'
    go_simp
    with_reducible rfl
   rotate_left
   ·
    simp only [Act.put, List.setIfInBounds_toArray, List.set_cons_zero, List.set_cons_succ, i64_w, i32_w]
    rfl
   refine last_ (i := 13) (N := none) #[true, true, true, true, true, true, true, true, true, true, true, true, true, true, false, false] rfl rfl (one_of HT_.out (by kernel_rfl)) (by decide) (fun K hK => ?_)
   refine skip_ (w1 := ?_) (by rfl) rfl ?_ ?_
   rotate_left
   ·
    go_simp
    rfl
   refine hK.out _ _ ?_
   clear hK K
   refine pure_ (i := 14) (N := some 27) (v := ?_) (a' := ?_) #[true, true, true, true, true, true, true, true, true, true, true, true, true, true, true, false] rfl rfl (any_of HT_.out (by kernel_rfl)) (fun _ _ _ h => h) (Or.inl ⟨by rfl, ?_⟩) ?_ ?_
   rotate_left
   ·
    intro w'
    go_simp
    with_reducible rfl
   rotate_left
   ·
    simp only [Act.put, List.setIfInBounds_toArray, List.set_cons_zero, List.set_cons_succ, i64_w, i32_w]
    rfl
   refine last_ (i := 15) (N := none) #[true, true, true, true, true, true, true, true, true, true, true, true, true, true, true, true] rfl rfl (one_of HT_.out (by kernel_rfl)) (by decide) (fun K hK => ?_)
   refine skip_ (w1 := ?_) (by rfl) rfl ?_ ?_
   rotate_left
   ·
    go_simp
    rfl
   refine hK.out _ _ ?_
   clear hK K
   refine done_ (done_of HT_.out (by kernel_rfl)) ?_
   try go_wp2
   (try simp only [← hl0_1])
   go_roundg k1
   case measure => have := HK1.out; omega
   case rel => exact ⟨(y541), (wrap64 (x2_1 + 1)), (wrap64 (x3_1 - 1)), qF, qF, H', ⟨by have := HK1.out; omega⟩, ⟨by (try simp only [hl0_1]); (with_reducible repeat (first | apply Kd.R_alloc | apply Kd.R_drewN | apply Kd.R_drew)); exact HQ12.out⟩, ⟨by repeat (first | (with_reducible first | exact HK.out | apply Kept.alloc | apply Kept.drewN | apply Kept.drew | refine Kept.setCell ?_ HMgo8.out _ | refine Kept.setCell ?_ HMgo8.out _) | exact HK.out)⟩, ⟨qG HB.out⟩⟩
end Go.Proofs.YtcfphjjdbccnoaaGreat.PF

namespace Go.Proofs.YtcfphjjdbccnoaaGreat.PF
open Go.RowKit Go.Proofs.YtcfphjjdbccnoaaGreatW.PrintWords Go.Proofs.YtcfphjjdbccnoaaGreatW.PrintLast Go.Proofs.YtcfphjjdbccnoaaGreatW.PrintMore
attribute [local go_sem] max2_int min2_int max_two min_two max_three min_three max_four min_four   -- for this text's walks alone
set_option linter.unusedVariables false
set_option linter.unusedSimpArgs false

/-! ### laws_hasInt: function 16 -/
def laws_hasInt.l0 : Nat → List Int → Int → Int → Option (Bool)
 | 0, _, _, _ => none
 | k + 1, x0, x1, x5 => if x5 < (x0.length : Int) then (if 0 ≤ x5 then (if (rd x0 x5) = x1 then (some true) else (laws_hasInt.l0 k x0 x1 (wrap64 (x5 + 1)))) else (none)) else (some false)
def laws_hasInt.f (k : Nat) (l0 : List Int) (a1 : Int) : Option (Bool) := laws_hasInt.l0 k l0 a1 0
theorem laws_hasInt.mono_l : ∀ k, (∀ y0 y1 y2, LeO (laws_hasInt.l0 k y0 y1 y2) (laws_hasInt.l0 (k + 1) y0 y1 y2))
 | 0 => fun _ _ _ r h => by simp [laws_hasInt.l0] at h
 | k + 1 => by
  have ih0 := laws_hasInt.mono_l k
  ·
   intro y0 y1 y2
   unfold laws_hasInt.l0
   with_reducible repeat' first
   | exact ih0 _ _ _
   | exact LeO.refl _
   | exact LeO.none _
   | refine LeO.ite ?_ ?_
   | refine LeO.bind ?_ (fun _ => ?_)
theorem laws_hasInt.mono : ∀ a0 a1 k, LeO (laws_hasInt.f k a0 a1) (laws_hasInt.f (k + 1) a0 a1) := by
 intro a0 a1 k
 have ih0 := laws_hasInt.mono_l k
 unfold laws_hasInt.f
 with_reducible repeat' first
   | exact ih0 _ _ _
   | exact LeO.refl _
   | exact LeO.none _
   | refine LeO.ite ?_ ?_
   | refine LeO.bind ?_ (fun _ => ?_)
set_option maxHeartbeats 8000000 in
set_option maxRecDepth 100000 in
theorem laws_hasInt.calls (k : Nat) (A0 : Option Addr) (c0 : Nat) (l0 : List Int) (a1 : Int) (r : Bool) (w : World) (hr0 : Kd.C (Kd.int .i64) w A0 l0.length l0) (hc0 : l0.length ≤ c0) (h : laws_hasInt.f k l0 a1 = some r) :
  Calls Tryz.prog 16 #[.slice A0 l0.length c0, .int .i64 a1] w fun e w' => e = .returned (.bool r) ∧ Drawn0 w w' := by
 have HR0 := Aside0.mk hr0
 have HC0 := Aside0.mk hc0
 clear hr0 hc0
 have H : (laws_hasInt.l0 k l0 a1 0) = some r := h
 clear h
 have H' := Aside0.mk H
 clear H
 go_enter Tryz.func16, Tryz.ntmps16
 go_wp2
 go_loopg [5] k (fun kq v5 w' => ∃ (x5_1 : Int), v5 = .int .i64 x5_1 ∧ Aside0 (laws_hasInt.l0 kq l0 a1 x5_1 = some r) ∧ Aside0 (kq ≤ k) ∧ Drawn0 w w')
 case atStart => exact ⟨(0), qF, H', ⟨Nat.le_refl _⟩, by repeat (first | exact Drawn0.refl _ | apply Drawn0.step)⟩
 case round =>
  clear H'
  obtain ⟨x5_1, rfl, HA, HK1, ⟨m1, rfl⟩⟩ := hrel
  cases gk with
  | zero => exact absurd HA.out (by simp [laws_hasInt.l0])
  | succ k1 =>
   have H := HA.out
   clear HA
   simp only [laws_hasInt.l0] at H
   by_cases c3 : x5_1 < (l0.length : Int)
   rotate_left
   ·
    rw [if_neg c3] at H
    have c3b0 : decide (x5_1 < (l0.length : Int)) = false := decide_eq_false c3
    clear c3
    obtain rfl := Option.some.inj H
    go_wp2
    go_ret
    exact ⟨by first | rfl | (simp; done) | (simp [*]; done) | (simp; rw [Bool.eq_iff_iff]; simp; done), by repeat (first | exact Drawn0.refl _ | apply Drawn0.step)⟩

   rw [if_pos c3] at H
   have c3b0 : decide (x5_1 < (l0.length : Int)) = true := decide_eq_true c3
   clear c3
   by_cases c4 : 0 ≤ x5_1
   rotate_left
   ·
    rw [if_neg c4] at H
    exact absurd H (by simp)
   rw [if_pos c4] at H
   have c4b0 : decide (0 ≤ x5_1) = true := decide_eq_true c4
   clear c4
   by_cases c5 : (rd l0 x5_1) = a1
   ·
    rw [if_pos c5] at H
    obtain ⟨c5b0, c5b1⟩ := zT c5
    clear c5
    obtain rfl := Option.some.inj H
    have p542 : 0 ≤ (x5_1 : Int) := of_decide_eq_true (by first | (with_reducible assumption) | assumption)
    have q542 : x5_1 < (l0.length : Int) := of_decide_eq_true (by first | (with_reducible assumption) | assumption)
    obtain ⟨ad542, e542, hx542_0⟩ := Kd.at_int HR0.out x5_1 p542 q542
    cases e542
    replace p542 := eq_true p542
    replace q542 := eq_true q542
    go_wp2
    go_ret
    exact ⟨by first | rfl | (simp; done) | (simp [*]; done) | (simp; rw [Bool.eq_iff_iff]; simp; done), by repeat (first | exact Drawn0.refl _ | apply Drawn0.step)⟩
   rw [if_neg c5] at H
   obtain ⟨c5b0, c5b1⟩ := zF c5
   have H' := Aside0.mk H
   clear H
   have p542 : 0 ≤ (x5_1 : Int) := of_decide_eq_true (by first | (with_reducible assumption) | assumption)
   have q542 : x5_1 < (l0.length : Int) := of_decide_eq_true (by first | (with_reducible assumption) | assumption)
   obtain ⟨ad542, e542, hx542_0⟩ := Kd.at_int HR0.out x5_1 p542 q542
   cases e542
   replace p542 := eq_true p542
   replace q542 := eq_true q542
   go_wp2
   go_roundg k1
   case measure => have := HK1.out; omega
   case rel => exact ⟨(wrap64 (x5_1 + 1)), qF, H', ⟨by have := HK1.out; omega⟩, by repeat (first | exact Drawn0.refl _ | apply Drawn0.step)⟩
end Go.Proofs.YtcfphjjdbccnoaaGreat.PF

namespace Go.Proofs.YtcfphjjdbccnoaaGreat.PF
open Go.RowKit Go.Proofs.YtcfphjjdbccnoaaGreatW.PrintWords Go.Proofs.YtcfphjjdbccnoaaGreatW.PrintLast Go.Proofs.YtcfphjjdbccnoaaGreatW.PrintMore
attribute [local go_sem] max2_int min2_int max_two min_two max_three min_three max_four min_four   -- for this text's walks alone
set_option linter.unusedVariables false
set_option linter.unusedSimpArgs false

/-! ### spec_DrawFirstTwo: function 17 -/
def spec_DrawFirstTwo.f (k : Nat) (l0 : List Int) : Option (ByteArray × Int) := (spec_l09One.f k l0).bind fun t543 => ((spec_l01From.f k l0).bind fun bt544 => ((spec_l01Pick.f bt544.1 bt544.2.1 bt544.2.2 (([1, 1, 2, 2, 3, 4, 5, 60, 0, 61] : List Int))).bind fun bt551 => (some (t543, bt551.1))))
theorem spec_DrawFirstTwo.mono : ∀ a0 k, LeO (spec_DrawFirstTwo.f k a0) (spec_DrawFirstTwo.f (k + 1) a0) := by
 intro a0 k
 unfold spec_DrawFirstTwo.f
 with_reducible repeat' first
   | exact spec_l01From.mono _ _
   | exact spec_l09One.mono _ _
   | exact LeO.refl _
   | exact LeO.none _
   | refine LeO.ite ?_ ?_
   | refine LeO.bind ?_ (fun _ => ?_)
set_option maxHeartbeats 8000000 in
set_option maxRecDepth 100000 in
theorem spec_DrawFirstTwo.calls (k : Nat) (A0 : Option Addr) (c0 : Nat) (l0 : List Int) (r1 : ByteArray) (r2 : Int) (w : World) (hr0 : Kd.C (Kd.int .u8) w A0 l0.length l0) (hc0 : l0.length ≤ c0) (h : spec_DrawFirstTwo.f k l0 = some (r1, r2)) :
  Calls Tryz.prog 17 #[.slice A0 l0.length c0] w fun e w' => e = .returned (.tuple #[.string r1, .int .i64 r2]) ∧ Below w.heap.size w w' := by
 have HR0 := Aside0.mk hr0
 have HC0 := Aside0.mk hc0
 clear hr0 hc0
 have HB := Aside0.mk (Below.refl w.heap.size w)
 have H : ((spec_l09One.f k l0).bind fun t543 => ((spec_l01From.f k l0).bind fun bt544 => ((spec_l01Pick.f bt544.1 bt544.2.1 bt544.2.2 (([1, 1, 2, 2, 3, 4, 5, 60, 0, 61] : List Int))).bind fun bt551 => (some (t543, bt551.1))))) = some (r1, r2) := h
 clear h
 obtain ⟨t543, A2, H⟩ := qN H
 try dsimp only at H
 obtain ⟨⟨t544, t545, t546⟩, A3, H⟩ := qN H
 try dsimp only at H
 obtain ⟨y548, hy548⟩ : ∃ y_ : List Int, y_ = (([1, 1, 2, 2, 3, 4, 5, 60, 0, 61] : List Int)) := ⟨_, rfl⟩
 replace H : ((spec_l01Pick.f t544 t545 t546 y548).bind fun bt551 => (some (t543, bt551.1))) = some (r1, r2) := by first | (rw [hy548]; with_reducible exact H) | (have H2_ := (Option.bind_some _ _).symm.trans H; rw [hy548]; with_reducible exact H2_) | (have H2_ := (Option.bind_some _ _).symm.trans H; with_reducible exact H2_) | with_reducible exact H | (rw [hy548]; exact H) | exact H
 have Ny548 := Aside0.mk hy548
 clear hy548
 obtain ⟨⟨t551, t552, t553⟩, A4, H⟩ := qN H
 try dsimp only at H
 simp only [Option.some.injEq, Prod.mk.injEq] at H
 obtain ⟨rfl, rfl⟩ := H
 go_enter Tryz.func17, Tryz.ntmps17
 go_wp2_with (first | ((with_reducible refine gate_callee (f := 29) rfl ?_); refine goesL_ (some 5) rfl rfl Tryz.func29 (by kernel_rfl) rfl #[.slice A0 l0.length c0] rfl qV ?_; (with_reducible refine (spec_l09One.calls k _ _ l0 t543 _ ?side1 ?side2 A2.out).mono ?_); (case side1 => exact qC HR0.out); (case side2 => exact HC0.out); rintro e w5 ⟨rfl, hb⟩; refine ⟨_, rfl, ?_⟩; replace HB := Aside0.mk (below_step (qB HB.out) hb)) | ((with_reducible refine gate_callee (f := 48) rfl ?_); refine goesL_ (some 7) rfl rfl Tryz.func48 (by kernel_rfl) rfl #[.slice A0 l0.length c0] rfl qV ?_; (with_reducible refine (spec_l01From.calls k _ _ l0 t544 t545 t546 w _ ?side1 ?side2 ?side3 A3.out).mono ?_); (case side1 => exact qB HB.out); (case side2 => exact HR0.out); (case side3 => exact HC0.out); rintro e w6 ⟨g547, rfl, hi, hb, hb2⟩; refine ⟨_, rfl, ?_⟩; replace HB := Aside0.mk (hb); have HI547 := Aside0.mk (hi)) | ((with_reducible refine gate_dst (N := 8) rfl ?_); refine Kd.R_lit (Kd.int .i64) _ 2 ?hg (N := 8) ?hd (xs := ([1, 1, 2, 2, 3, 4, 5, 60, 0, 61] : List Int)) (inner := [.int .i64 1, .int .i64 1, .int .i64 2, .int .i64 2, .int .i64 3, .int .i64 4, .int .i64 5, .int .i64 60, .int .i64 0, .int .i64 61]) (ok := fun _ => True) (okp := fun _ => True) ?hr ?hp (fun _ hk => hk) trivial (Below.refl _ _) (Nat.le_refl _) (by simp) ?_; (case hd => rfl); (case hg => rfl); (case hr => first | (go_simp; done) | (go_simp; rfl)); (case hp => exact (Reps.one (show Kd.M (Kd.int .i64) _ _ _ 1 [.int .i64 1] from rfl) (Reps.one (show Kd.M (Kd.int .i64) _ _ _ 1 [.int .i64 1] from rfl) (Reps.one (show Kd.M (Kd.int .i64) _ _ _ 2 [.int .i64 2] from rfl) (Reps.one (show Kd.M (Kd.int .i64) _ _ _ 2 [.int .i64 2] from rfl) (Reps.one (show Kd.M (Kd.int .i64) _ _ _ 3 [.int .i64 3] from rfl) (Reps.one (show Kd.M (Kd.int .i64) _ _ _ 4 [.int .i64 4] from rfl) (Reps.one (show Kd.M (Kd.int .i64) _ _ _ 5 [.int .i64 5] from rfl) (Reps.one (show Kd.M (Kd.int .i64) _ _ _ 60 [.int .i64 60] from rfl) (Reps.one (show Kd.M (Kd.int .i64) _ _ _ 0 [.int .i64 0] from rfl) (Reps.one (show Kd.M (Kd.int .i64) _ _ _ 61 [.int .i64 61] from rfl) (Reps.none _ _)))))))))))); intro v549 w7 ho8 hb hg_ hnew_; clear hg_ hnew_; (first | rw [← Ny548.out] at ho8 | (simp only [Int.reduceToNat] at ho8; rw [← Ny548.out] at ho8)); have HO550 := Aside0.mk (Kd.R_lower ho8 (below_size (qS HB.out))); replace HI547 := Aside0.mk (IsS80.below (qI HI547.out) hb); replace HB := Aside0.mk (below_step (qS HB.out) hb); clear hb ho8; obtain ⟨Ao9, co9, eo9⟩ := Kd.R_slice HO550.out; subst eo9) | ((with_reducible refine gate_callee (f := 47) rfl ?_); refine goesL_ (some 9) rfl rfl Tryz.func47 (by kernel_rfl) rfl #[.pointer (some ⟨g547, 0, none⟩), .slice Ao9 y548.length co9] rfl qV ?_; (with_reducible refine (spec_l01Pick.calls g547 t544 t545 t546 _ _ y548 t551 t552 t553 w _ ?side1 ?side2 ?side3 ?side4 ?side5 A4.out).mono ?_); (case side1 => exact qI HI547.out); (case side2 => exact qS HB.out); (case side3 => exact qC (Kd.R_reads' HO550.out).2.2); (case side4 => exact (Kd.R_reads' HO550.out).2.1); (case side5 => exact far_slice (IsS80.own_ne HI547.out HO550.out (by decide))); rintro e w10 ⟨rfl, hi, hb, hk⟩; refine ⟨_, rfl, ?_⟩; replace HO550 := Aside0.mk (Kd.R_mono (Kd.R_keep (IsS80.apart (show IsS80 w _ g547 t544 t545 t546 from qI HI547.out) (qR HO550.out) (by decide)) hk (fun _ h => h.2)) (fun _ h => h.1)); replace HB := Aside0.mk (hb); replace HI547 := Aside0.mk (hi)))
 go_ret2
 exact ⟨qE, qS HB.out⟩

end Go.Proofs.YtcfphjjdbccnoaaGreat.PF

namespace Go.Proofs.YtcfphjjdbccnoaaGreat.PF
open Go.RowKit Go.Proofs.YtcfphjjdbccnoaaGreatW.PrintWords Go.Proofs.YtcfphjjdbccnoaaGreatW.PrintLast Go.Proofs.YtcfphjjdbccnoaaGreatW.PrintMore
attribute [local go_sem] max2_int min2_int max_two min_two max_three min_three max_four min_four   -- for this text's walks alone
set_option linter.unusedVariables false
set_option linter.unusedSimpArgs false

/-! ### impl_FirstTwo_1: function 49 -/
def impl_FirstTwo_1.f (a0 : Int) : Option (Bool) := (impl_isCoverLength.f a0).bind fun t555 => (some t555)
set_option maxHeartbeats 8000000 in
set_option maxRecDepth 100000 in
theorem impl_FirstTwo_1.calls (g0 : Nat) (a0 : Int) (r : Bool) (w : World) (hb0 : w.heap[g0]? = some (.cells #[.int .i64 a0] 2 (0, 0))) (h : impl_FirstTwo_1.f a0 = some r) :
  Calls Tryz.prog 49 #[.pointer (some ⟨g0, 0, none⟩)] w fun e w' => e = .returned (.bool r) ∧ Drawn0 w w' := by
 have BK554 := Aside0.mk hb0
 clear hb0
 have H : ((impl_isCoverLength.f a0).bind fun t555 => (some t555)) = some r := h
 clear h
 obtain ⟨t555, A2, H⟩ := qN H
 try dsimp only at H
 obtain rfl := Option.some.inj H
 have hcz3_0 : w.cell? ⟨g0, 0, none⟩ = some (.int .i64 a0) := (blk_cell BK554.out 0).trans rfl
 have hfz3_0 := blk_frozen BK554.out 0
 go_enter Tryz.func49, Tryz.ntmps49
 go_wp2_with (first | ((with_reducible refine gate_callee (f := 39) rfl ?_); refine goesL_ (some 3) rfl rfl Tryz.func39 (by kernel_rfl) rfl #[.int .i64 a0] rfl qV ?_; (with_reducible refine (impl_isCoverLength.calls a0 t555 _ A2.out).mono ?_); rintro e w' ⟨rfl, ⟨nd, rfl⟩⟩; refine ⟨_, rfl, ?_⟩))
 go_ret
 exact ⟨by first | rfl | (simp; done) | (simp [*]; done) | (simp; rw [Bool.eq_iff_iff]; simp; done), by repeat (first | exact Drawn0.refl _ | apply Drawn0.step)⟩

end Go.Proofs.YtcfphjjdbccnoaaGreat.PF

namespace Go.Proofs.YtcfphjjdbccnoaaGreat.PF
open Go.RowKit Go.Proofs.YtcfphjjdbccnoaaGreatW.PrintWords Go.Proofs.YtcfphjjdbccnoaaGreatW.PrintLast Go.Proofs.YtcfphjjdbccnoaaGreatW.PrintMore
attribute [local go_sem] max2_int min2_int max_two min_two max_three min_three max_four min_four   -- for this text's walks alone
set_option linter.unusedVariables false
set_option linter.unusedSimpArgs false

/-! ### spec_l01In: function 76 -/
def spec_l01In.f (a0 : Int) (a1 : Int) (a2 : Int) : Option (Bool) := if a0 ≥ a1 then (some (decide (a0 ≤ a2))) else (some false)
set_option maxHeartbeats 8000000 in
set_option maxRecDepth 100000 in
theorem spec_l01In.calls (a0 : Int) (a1 : Int) (a2 : Int) (r : Bool) (w : World) (h : spec_l01In.f a0 a1 a2 = some r) :
  Calls Tryz.prog 76 #[.int .i64 a0, .int .i64 a1, .int .i64 a2] w fun e w' => e = .returned (.bool r) ∧ Drawn0 w w' := by
 have H : (if a0 ≥ a1 then (some (decide (a0 ≤ a2))) else (some false)) = some r := h
 clear h
 by_cases c4 : a0 ≥ a1
 ·
  rw [if_pos c4] at H
  have c4b0 : decide (a1 ≤ a0) = true := decide_eq_true c4
  clear c4
  obtain rfl := Option.some.inj H
  go_enter Tryz.func76, Tryz.ntmps76
  go_wp2
  go_ret
  exact ⟨by first | rfl | (simp; done) | (simp [*]; done) | (simp; rw [Bool.eq_iff_iff]; simp; done), by repeat (first | exact Drawn0.refl _ | apply Drawn0.step)⟩
 rw [if_neg c4] at H
 have c4b0 : decide (a1 ≤ a0) = false := decide_eq_false c4
 clear c4
 obtain rfl := Option.some.inj H
 go_enter Tryz.func76, Tryz.ntmps76
 go_wp2
 go_ret
 exact ⟨by first | rfl | (simp; done) | (simp [*]; done) | (simp; rw [Bool.eq_iff_iff]; simp; done), by repeat (first | exact Drawn0.refl _ | apply Drawn0.step)⟩

end Go.Proofs.YtcfphjjdbccnoaaGreat.PF

namespace Go.Proofs.YtcfphjjdbccnoaaGreat.PF
open Go.RowKit Go.Proofs.YtcfphjjdbccnoaaGreatW.PrintWords Go.Proofs.YtcfphjjdbccnoaaGreatW.PrintLast Go.Proofs.YtcfphjjdbccnoaaGreatW.PrintMore
attribute [local go_sem] max2_int min2_int max_two min_two max_three min_three max_four min_four   -- for this text's walks alone
set_option linter.unusedVariables false
set_option linter.unusedSimpArgs false

/-! ### spec_l09Length: function 52 -/
def spec_l09Length.f (k : Nat) (a0 : ByteArray) (a1 : Int) : Option (Int) := (spec_l01Is.f k a0).bind fun t577 => (if t577 = true then ((spec_l01In.f a1 1 60).bind fun t578 => (if t578 = true then (some 0) else (some 2))) else (some 1))
theorem spec_l09Length.mono : ∀ a0 a1 k, LeO (spec_l09Length.f k a0 a1) (spec_l09Length.f (k + 1) a0 a1) := by
 intro a0 a1 k
 unfold spec_l09Length.f
 with_reducible repeat' first
   | exact spec_l01Is.mono _ _
   | exact LeO.refl _
   | exact LeO.none _
   | refine LeO.ite ?_ ?_
   | refine LeO.bind ?_ (fun _ => ?_)
set_option maxHeartbeats 8000000 in
set_option maxRecDepth 100000 in
theorem spec_l09Length.calls (k : Nat) (a0 : ByteArray) (a1 : Int) (r : Int) (w : World) (h : spec_l09Length.f k a0 a1 = some r) :
  Calls Tryz.prog 52 #[.string a0, .int .i64 a1] w fun e w' => e = .returned (.int .i64 r) ∧ Drawn0 w w' := by
 have H : ((spec_l01Is.f k a0).bind fun t577 => (if t577 = true then ((spec_l01In.f a1 1 60).bind fun t578 => (if t578 = true then (some 0) else (some 2))) else (some 1))) = some r := h
 clear h
 obtain ⟨t577, A3, H⟩ := qN H
 try dsimp only at H
 by_cases c4 : t577 = true
 rotate_left
 ·
  replace c4 := Bool.eq_false_iff.mpr c4
  subst c4
  rw [if_neg (show ¬ (false = true) by decide)] at H
  obtain rfl := Option.some.inj H
  go_enter Tryz.func52, Tryz.ntmps52
  go_wp2_with (first | ((with_reducible refine gate_callee (f := 33) rfl ?_); refine goesL_ (some 7) rfl rfl Tryz.func33 (by kernel_rfl) rfl #[.string a0] rfl qV ?_; (with_reducible refine (spec_l01Is.calls k a0 false _ A3.out).mono ?_); rintro e w' ⟨rfl, ⟨nd, rfl⟩⟩; refine ⟨_, rfl, ?_⟩))
  go_ret
  exact ⟨by first | rfl | (simp; done) | (simp [*]; done) | (simp; rw [Bool.eq_iff_iff]; simp; done), by repeat (first | exact Drawn0.refl _ | apply Drawn0.step)⟩

 subst c4
 rw [if_pos rfl] at H
 obtain ⟨t578, A5, H⟩ := qN H
 try dsimp only at H
 by_cases c6 : t578 = true
 ·
  subst c6
  rw [if_pos rfl] at H
  obtain rfl := Option.some.inj H
  go_enter Tryz.func52, Tryz.ntmps52
  go_wp2_with (first | ((with_reducible refine gate_callee (f := 33) rfl ?_); refine goesL_ (some 7) rfl rfl Tryz.func33 (by kernel_rfl) rfl #[.string a0] rfl qV ?_; (with_reducible refine (spec_l01Is.calls k a0 true _ A3.out).mono ?_); rintro e w' ⟨rfl, ⟨nd, rfl⟩⟩; refine ⟨_, rfl, ?_⟩) | ((with_reducible refine gate_callee (f := 76) rfl ?_); refine goesL_ (some 11) rfl rfl Tryz.func76 (by kernel_rfl) rfl #[.int .i64 a1, .int .i64 1, .int .i64 60] rfl qV ?_; (with_reducible refine (spec_l01In.calls a1 1 60 true _ A5.out).mono ?_); rintro e w' ⟨rfl, ⟨nd, rfl⟩⟩; refine ⟨_, rfl, ?_⟩))
  go_ret
  exact ⟨by first | rfl | (simp; done) | (simp [*]; done) | (simp; rw [Bool.eq_iff_iff]; simp; done), by repeat (first | exact Drawn0.refl _ | apply Drawn0.step)⟩
 replace c6 := Bool.eq_false_iff.mpr c6
 subst c6
 rw [if_neg (show ¬ (false = true) by decide)] at H
 obtain rfl := Option.some.inj H
 go_enter Tryz.func52, Tryz.ntmps52
 go_wp2_with (first | ((with_reducible refine gate_callee (f := 33) rfl ?_); refine goesL_ (some 7) rfl rfl Tryz.func33 (by kernel_rfl) rfl #[.string a0] rfl qV ?_; (with_reducible refine (spec_l01Is.calls k a0 true _ A3.out).mono ?_); rintro e w' ⟨rfl, ⟨nd, rfl⟩⟩; refine ⟨_, rfl, ?_⟩) | ((with_reducible refine gate_callee (f := 76) rfl ?_); refine goesL_ (some 11) rfl rfl Tryz.func76 (by kernel_rfl) rfl #[.int .i64 a1, .int .i64 1, .int .i64 60] rfl qV ?_; (with_reducible refine (spec_l01In.calls a1 1 60 false _ A5.out).mono ?_); rintro e w' ⟨rfl, ⟨nd, rfl⟩⟩; refine ⟨_, rfl, ?_⟩))
 go_ret
 exact ⟨by first | rfl | (simp; done) | (simp [*]; done) | (simp; rw [Bool.eq_iff_iff]; simp; done), by repeat (first | exact Drawn0.refl _ | apply Drawn0.step)⟩
end Go.Proofs.YtcfphjjdbccnoaaGreat.PF

namespace Go.Proofs.YtcfphjjdbccnoaaGreat.PF
open Go.RowKit Go.Proofs.YtcfphjjdbccnoaaGreatW.PrintWords Go.Proofs.YtcfphjjdbccnoaaGreatW.PrintLast Go.Proofs.YtcfphjjdbccnoaaGreatW.PrintMore
attribute [local go_sem] max2_int min2_int max_two min_two max_three min_three max_four min_four   -- for this text's walks alone
set_option linter.unusedVariables false
set_option linter.unusedSimpArgs false

/-! ### spec_l09Two: function 54 -/
def spec_l09Two.l0 : Nat → List Bool → List Bool → Int → Option (Bool)
 | 0, _, _, _ => none
 | k + 1, x7, x8, x9 => if x9 < (x7.length : Int) then (if 0 ≤ x9 then (if rdOf false x7 x9 = true then (spec_l09Two.l0 k x7 x8 (wrap64 (x9 + 1))) else (if x9 < (x8.length : Int) then (if rdOf false x8 x9 = true then (spec_l09Two.l0 k x7 x8 (wrap64 (x9 + 1))) else (some false)) else (none))) else (none)) else (some true)
def spec_l09Two.f (k : Nat) (a0 : ByteArray) (a1 : ByteArray) (a2 : ByteArray) : Option (Bool) := (spec_l09Places.f k a0 a1).bind fun t579 => ((spec_l09Places.f k a0 a2).bind fun t582 => (spec_l09Two.l0 k t579 t582 0))
theorem spec_l09Two.mono_l : ∀ k, (∀ y0 y1 y2, LeO (spec_l09Two.l0 k y0 y1 y2) (spec_l09Two.l0 (k + 1) y0 y1 y2))
 | 0 => fun _ _ _ r h => by simp [spec_l09Two.l0] at h
 | k + 1 => by
  have ih0 := spec_l09Two.mono_l k
  ·
   intro y0 y1 y2
   unfold spec_l09Two.l0
   with_reducible repeat' first
   | exact ih0 _ _ _
   | exact spec_l09Places.mono _ _ _
   | exact LeO.refl _
   | exact LeO.none _
   | refine LeO.ite ?_ ?_
   | refine LeO.bind ?_ (fun _ => ?_)
theorem spec_l09Two.mono : ∀ a0 a1 a2 k, LeO (spec_l09Two.f k a0 a1 a2) (spec_l09Two.f (k + 1) a0 a1 a2) := by
 intro a0 a1 a2 k
 have ih0 := spec_l09Two.mono_l k
 unfold spec_l09Two.f
 with_reducible repeat' first
   | exact ih0 _ _ _
   | exact spec_l09Places.mono _ _ _
   | exact LeO.refl _
   | exact LeO.none _
   | refine LeO.ite ?_ ?_
   | refine LeO.bind ?_ (fun _ => ?_)
set_option maxHeartbeats 8000000 in
set_option maxRecDepth 100000 in
theorem spec_l09Two.calls (k : Nat) (a0 : ByteArray) (a1 : ByteArray) (a2 : ByteArray) (r : Bool) (w : World) (h : spec_l09Two.f k a0 a1 a2 = some r) :
  Calls Tryz.prog 54 #[.string a0, .string a1, .string a2] w fun e w' => e = .returned (.bool r) ∧ Below w.heap.size w w' := by
 have HB := Aside0.mk (Below.refl w.heap.size w)
 have H : ((spec_l09Places.f k a0 a1).bind fun t579 => ((spec_l09Places.f k a0 a2).bind fun t582 => (spec_l09Two.l0 k t579 t582 0))) = some r := h
 clear h
 obtain ⟨t579, A4, H⟩ := qN H
 try dsimp only at H
 obtain ⟨t582, A5, H⟩ := qN H
 try dsimp only at H
 have H' := Aside0.mk H
 clear H
 go_enter Tryz.func54, Tryz.ntmps54
 go_wp2_with (first | ((with_reducible refine gate_callee (f := 43) rfl ?_); refine goesL_ (some 12) rfl rfl Tryz.func43 (by kernel_rfl) rfl #[.string a0, .string a1] rfl qV ?_; (with_reducible refine (spec_l09Places.calls k a0 a1 t579 _ A4.out).mono ?_); rintro e w6 ⟨v580, rfl, ho0, hb⟩; refine ⟨_, rfl, ?_⟩; have HO581 := Aside0.mk (Kd.R_lower ho0 (below_size (qB HB.out))); replace HB := Aside0.mk (below_step (qB HB.out) hb)) | ((with_reducible refine gate_callee (f := 43) rfl ?_); refine goesL_ (some 15) rfl rfl Tryz.func43 (by kernel_rfl) rfl #[.string a0, .string a2] rfl qV ?_; (with_reducible refine (spec_l09Places.calls k a0 a2 t582 _ A5.out).mono ?_); rintro e w7 ⟨v583, rfl, ho0, hb⟩; refine ⟨_, rfl, ?_⟩; have HO584 := Aside0.mk (Kd.R_lower (Kd.R_new' ho0 (Kd.R_lt (qR HO581.out))) (below_size (qB HB.out))); replace HO581 := Aside0.mk (Kd.R_elder' (qR HO581.out) (Kd.R_base ho0) hb); replace HB := Aside0.mk (below_step (qB HB.out) hb)))
 go_loopg [9] k (fun kq v9 w' => ∃ (x9_1 : Int), v9 = .int .i64 x9_1 ∧ Aside0 (spec_l09Two.l0 kq t579 t582 x9_1 = some r) ∧ Aside0 (kq ≤ k) ∧ Aside0 (Kd.R Kd.bool 4 w' w.heap.size (fun k_ => some k_ ≠ (v583 : Value).ownBlock) v580 t579) ∧ Aside0 (Kd.R Kd.bool 4 w' w.heap.size (fun k_ => some k_ ≠ (v580 : Value).ownBlock) v583 t582) ∧ Aside0 (Below w.heap.size w w'))
 case atStart => exact ⟨(0), qF, H', ⟨Nat.le_refl _⟩, ⟨by (with_reducible repeat (first | apply Kd.R_alloc | apply Kd.R_drewN | apply Kd.R_drew)); exact Kd.R_mono HO581.out (fun _ hk => hk.2)⟩, ⟨by (with_reducible repeat (first | apply Kd.R_alloc | apply Kd.R_drewN | apply Kd.R_drew)); exact Kd.R_mono HO584.out (fun _ hk => hk.2)⟩, ⟨qB HB.out⟩⟩
 case round =>
  clear H'
  obtain ⟨x9_1, rfl, HA, HK1, HO_7, HO_8, HB⟩ := hrel
  cases gk with
  | zero => exact absurd HA.out (by simp [spec_l09Two.l0])
  | succ k1 =>
   have H := HA.out
   clear HA
   simp only [spec_l09Two.l0] at H
   by_cases c8 : x9_1 < (t579.length : Int)
   rotate_left
   ·
    rw [if_neg c8] at H
    have c8b0 : decide (x9_1 < (t579.length : Int)) = false := decide_eq_false c8
    clear c8
    obtain rfl := Option.some.inj H
    obtain ⟨Ao20, co20, eo20⟩ := Kd.R_slice HO_7.out
    subst eo20
    go_wp2
    go_ret
    exact ⟨qE, qB HB.out⟩

   rw [if_pos c8] at H
   have c8b0 : decide (x9_1 < (t579.length : Int)) = true := decide_eq_true c8
   clear c8
   by_cases c9 : 0 ≤ x9_1
   rotate_left
   ·
    rw [if_neg c9] at H
    exact absurd H (by simp)
   rw [if_pos c9] at H
   have c9b0 : decide (0 ≤ x9_1) = true := decide_eq_true c9
   clear c9
   obtain ⟨bq10, hbq10⟩ : ∃ b_ : Bool, b_ = (rdOf false t579 x9_1) := ⟨_, rfl⟩
   replace H : (if bq10 = true then (spec_l09Two.l0 k1 t579 t582 (wrap64 (x9_1 + 1))) else (if x9_1 < (t582.length : Int) then (if rdOf false t582 x9_1 = true then (spec_l09Two.l0 k1 t579 t582 (wrap64 (x9_1 + 1))) else (some false)) else (none))) = some r := by rw [← hbq10] at H; exact H
   have Nbq10 := Aside0.mk hbq10
   clear hbq10
   by_cases c11 : bq10 = true
   ·
    subst c11
    rw [if_pos rfl] at H
    have H' := Aside0.mk H
    clear H
    obtain ⟨Ao12, co12, eo12⟩ := Kd.R_slice HO_7.out
    subst eo12
    have p585 : 0 ≤ (x9_1 : Int) := of_decide_eq_true (by first | (with_reducible assumption) | assumption)
    have q585 : x9_1 < (t579.length : Int) := of_decide_eq_true (by first | (with_reducible assumption) | assumption)
    obtain ⟨ad585, e585, hx585_0⟩ := Kd.at_bool (Kd.R_reads' HO_7.out).2.2 x9_1 p585 q585
    (try rw [← Nbq10.out] at hx585_0)
    cases e585
    replace p585 := eq_true p585
    replace q585 := eq_true q585
    go_wp2
    go_roundg k1
    case measure => have := HK1.out; omega
    case rel => exact ⟨(wrap64 (x9_1 + 1)), qF, H', ⟨by have := HK1.out; omega⟩, ⟨qR HO_7.out⟩, ⟨qR HO_8.out⟩, ⟨qB HB.out⟩⟩
   replace c11 := Bool.eq_false_iff.mpr c11
   subst c11
   rw [if_neg (show ¬ (false = true) by decide)] at H
   by_cases c13 : x9_1 < (t582.length : Int)
   rotate_left
   ·
    rw [if_neg c13] at H
    exact absurd H (by simp)
   rw [if_pos c13] at H
   have c13b0 : decide (x9_1 < (t582.length : Int)) = true := decide_eq_true c13
   clear c13
   obtain ⟨bq14, hbq14⟩ : ∃ b_ : Bool, b_ = (rdOf false t582 x9_1) := ⟨_, rfl⟩
   replace H : (if bq14 = true then (spec_l09Two.l0 k1 t579 t582 (wrap64 (x9_1 + 1))) else (some false)) = some r := by rw [← hbq14] at H; exact H
   have Nbq14 := Aside0.mk hbq14
   clear hbq14
   by_cases c15 : bq14 = true
   ·
    subst c15
    rw [if_pos rfl] at H
    have H' := Aside0.mk H
    clear H
    obtain ⟨Ao16, co16, eo16⟩ := Kd.R_slice HO_7.out
    subst eo16
    have p585 : 0 ≤ (x9_1 : Int) := of_decide_eq_true (by first | (with_reducible assumption) | assumption)
    have q585 : x9_1 < (t579.length : Int) := of_decide_eq_true (by first | (with_reducible assumption) | assumption)
    obtain ⟨ad585, e585, hx585_0⟩ := Kd.at_bool (Kd.R_reads' HO_7.out).2.2 x9_1 p585 q585
    (try rw [← Nbq10.out] at hx585_0)
    (try rw [← Nbq14.out] at hx585_0)
    cases e585
    replace p585 := eq_true p585
    replace q585 := eq_true q585
    obtain ⟨Ao17, co17, eo17⟩ := Kd.R_slice HO_8.out
    subst eo17
    have p586 : 0 ≤ (x9_1 : Int) := of_decide_eq_true (by first | (with_reducible assumption) | assumption)
    have q586 : x9_1 < (t582.length : Int) := of_decide_eq_true (by first | (with_reducible assumption) | assumption)
    obtain ⟨ad586, e586, hx586_0⟩ := Kd.at_bool (Kd.R_reads' HO_8.out).2.2 x9_1 p586 q586
    (try rw [← Nbq10.out] at hx586_0)
    (try rw [← Nbq14.out] at hx586_0)
    cases e586
    replace p586 := eq_true p586
    replace q586 := eq_true q586
    go_wp2
    go_roundg k1
    case measure => have := HK1.out; omega
    case rel => exact ⟨(wrap64 (x9_1 + 1)), qF, H', ⟨by have := HK1.out; omega⟩, ⟨qR HO_7.out⟩, ⟨qR HO_8.out⟩, ⟨qB HB.out⟩⟩
   replace c15 := Bool.eq_false_iff.mpr c15
   subst c15
   rw [if_neg (show ¬ (false = true) by decide)] at H
   obtain rfl := Option.some.inj H
   obtain ⟨Ao18, co18, eo18⟩ := Kd.R_slice HO_7.out
   subst eo18
   have p585 : 0 ≤ (x9_1 : Int) := of_decide_eq_true (by first | (with_reducible assumption) | assumption)
   have q585 : x9_1 < (t579.length : Int) := of_decide_eq_true (by first | (with_reducible assumption) | assumption)
   obtain ⟨ad585, e585, hx585_0⟩ := Kd.at_bool (Kd.R_reads' HO_7.out).2.2 x9_1 p585 q585
   (try rw [← Nbq10.out] at hx585_0)
   (try rw [← Nbq14.out] at hx585_0)
   cases e585
   replace p585 := eq_true p585
   replace q585 := eq_true q585
   obtain ⟨Ao19, co19, eo19⟩ := Kd.R_slice HO_8.out
   subst eo19
   have p586 : 0 ≤ (x9_1 : Int) := of_decide_eq_true (by first | (with_reducible assumption) | assumption)
   have q586 : x9_1 < (t582.length : Int) := of_decide_eq_true (by first | (with_reducible assumption) | assumption)
   obtain ⟨ad586, e586, hx586_0⟩ := Kd.at_bool (Kd.R_reads' HO_8.out).2.2 x9_1 p586 q586
   (try rw [← Nbq10.out] at hx586_0)
   (try rw [← Nbq14.out] at hx586_0)
   cases e586
   replace p586 := eq_true p586
   replace q586 := eq_true q586
   go_wp2
   go_ret
   exact ⟨qE, qB HB.out⟩
end Go.Proofs.YtcfphjjdbccnoaaGreat.PF

namespace Go.Proofs.YtcfphjjdbccnoaaGreat.PF
open Go.RowKit Go.Proofs.YtcfphjjdbccnoaaGreatW.PrintWords Go.Proofs.YtcfphjjdbccnoaaGreatW.PrintLast Go.Proofs.YtcfphjjdbccnoaaGreatW.PrintMore
attribute [local go_sem] max2_int min2_int max_two min_two max_three min_three max_four min_four   -- for this text's walks alone
set_option linter.unusedVariables false
set_option linter.unusedSimpArgs false

/-! ### spec_FirstTwo: function 19 -/
mutual
def spec_FirstTwo.l0 : Nat → ByteArray → List ByteArray → Int → Option (List ByteArray × Int)
 | 0, _, _, _ => none
 | k + 1, x0, x7, x8 => if x8 < (x7.length : Int) then (spec_FirstTwo.l1 k x0 x7 x8 (wrap64 (x8 + 1))) else (some (([] : List ByteArray), 4))
def spec_FirstTwo.l1 : Nat → ByteArray → List ByteArray → Int → Int → Option (List ByteArray × Int)
 | 0, _, _, _, _ => none
 | k + 1, x0, x7, x8, x9 => if x9 < (x7.length : Int) then (if 0 ≤ x8 then (if x8 < (x7.length : Int) then (if 0 ≤ x9 then ((spec_l09Two.f k x0 (rdOf ByteArray.empty x7 x8) (rdOf ByteArray.empty x7 x9)).bind fun t593 => (if t593 = true then (some ((([rdOf ByteArray.empty x7 x8, rdOf ByteArray.empty x7 x9] : List ByteArray)), 0)) else (spec_FirstTwo.l1 k x0 x7 x8 (wrap64 (x9 + 1))))) else (none)) else (none)) else (none)) else (spec_FirstTwo.l0 k x0 x7 (wrap64 (x8 + 1)))
end
def spec_FirstTwo.f (k : Nat) (a0 : ByteArray) (a1 : Int) : Option (List ByteArray × Int) := (spec_l09Length.f k a0 a1).bind fun t587 => (if t587 = 0 then ((spec_l01Factors.f k a0 a1).bind fun t588 => (spec_FirstTwo.l0 k a0 t588 0)) else (some (([] : List ByteArray), t587)))
theorem spec_FirstTwo.mono_l : ∀ k, (∀ y0 y1 y2, LeO (spec_FirstTwo.l0 k y0 y1 y2) (spec_FirstTwo.l0 (k + 1) y0 y1 y2)) ∧ (∀ y0 y1 y2 y3, LeO (spec_FirstTwo.l1 k y0 y1 y2 y3) (spec_FirstTwo.l1 (k + 1) y0 y1 y2 y3))
 | 0 => ⟨fun _ _ _ r h => by simp [spec_FirstTwo.l0] at h, fun _ _ _ _ r h => by simp [spec_FirstTwo.l1] at h⟩
 | k + 1 => by
  obtain ⟨ih0, ih1⟩ := spec_FirstTwo.mono_l k
  refine ⟨?_, ?_⟩
  all_goals intros
  all_goals first | unfold spec_FirstTwo.l0 | unfold spec_FirstTwo.l1
  all_goals with_reducible repeat' first
  | exact ih0 _ _ _
  | exact ih1 _ _ _ _
  | exact spec_l01Factors.mono _ _ _
  | exact spec_l09Length.mono _ _ _
  | exact spec_l09Two.mono _ _ _ _
  | exact LeO.refl _
  | exact LeO.none _
  | refine LeO.ite ?_ ?_
  | refine LeO.bind ?_ (fun _ => ?_)
theorem spec_FirstTwo.mono : ∀ a0 a1 k, LeO (spec_FirstTwo.f k a0 a1) (spec_FirstTwo.f (k + 1) a0 a1) := by
 intro a0 a1 k
 obtain ⟨ih0, ih1⟩ := spec_FirstTwo.mono_l k
 unfold spec_FirstTwo.f
 with_reducible repeat' first
   | exact ih0 _ _ _
   | exact ih1 _ _ _ _
   | exact spec_l01Factors.mono _ _ _
   | exact spec_l09Length.mono _ _ _
   | exact spec_l09Two.mono _ _ _ _
   | exact LeO.refl _
   | exact LeO.none _
   | refine LeO.ite ?_ ?_
   | refine LeO.bind ?_ (fun _ => ?_)
def spec_FirstTwo.T11 : Bool × List (List Nat × List Nat) := (true, [([], []), ([], []), ([], []), ([1, 2], [1, 2]), ([3], [3]), ([], []), ([], []), ([5, 6], [5, 6]), ([7], [7]), ([0, 4, 8], [0, 4, 8])])
def spec_FirstTwo.B11 : List Nat := [0, 0, 0, 6, 14, 0, 0, 96, 224, 511]
theorem spec_FirstTwo.tab11 : rtab .any (opsOf Tryz.f19 11) = spec_FirstTwo.T11 := by kernel_rfl
theorem spec_FirstTwo.bits11 : waitsOk spec_FirstTwo.T11.2 spec_FirstTwo.B11 = true := by kernel_rfl
def spec_FirstTwo.T12 : Bool × List (List Nat × List Nat) := (true, [([], []), ([], []), ([0, 1], [0, 1]), ([2], [2]), ([], []), ([], []), ([4, 5], [4, 5]), ([6], [6]), ([3, 7], [3, 7]), ([8, 0, 1, 2, 3, 4, 5, 6, 7, 8], [8]), ([9, 0, 1, 2, 3, 4, 5, 6, 7, 8, 9], [])])
def spec_FirstTwo.B12 : List Nat := [0, 0, 3, 7, 0, 0, 48, 112, 255, 511, 1023]
theorem spec_FirstTwo.tab12 : rtab .any (opsOf Tryz.f19 12) = spec_FirstTwo.T12 := by kernel_rfl
theorem spec_FirstTwo.bits12 : waitsOk spec_FirstTwo.T12.2 spec_FirstTwo.B12 = true := by kernel_rfl
set_option maxHeartbeats 8000000 in
set_option maxRecDepth 100000 in
theorem spec_FirstTwo.calls (k : Nat) (a0 : ByteArray) (a1 : Int) (r1 : List ByteArray) (r2 : Int) (w : World) (h : spec_FirstTwo.f k a0 a1 = some (r1, r2)) :
  Calls Tryz.prog 19 #[.string a0, .int .i64 a1] w fun e w' => ∃ v0_ : Value, e = .returned (.tuple #[v0_, .int .i64 r2]) ∧ Kd.R Kd.string 9 w' w.heap.size (fun _ => True) v0_ r1 ∧ Below w.heap.size w w' := by
 have HB := Aside0.mk (Below.refl w.heap.size w)
 have H : ((spec_l09Length.f k a0 a1).bind fun t587 => (if t587 = 0 then ((spec_l01Factors.f k a0 a1).bind fun t588 => (spec_FirstTwo.l0 k a0 t588 0)) else (some (([] : List ByteArray), t587)))) = some (r1, r2) := h
 clear h
 obtain ⟨t587, A3, H⟩ := qN H
 try dsimp only at H
 by_cases c4 : t587 = 0
 rotate_left
 ·
  rw [if_neg c4] at H
  obtain ⟨c4b0, c4b1⟩ := zF c4
  simp only [Option.some.injEq, Prod.mk.injEq] at H
  obtain ⟨rfl, rfl⟩ := H
  go_enter Tryz.func19, Tryz.ntmps19
  go_wp2_with (first | ((with_reducible refine gate_callee (f := 52) rfl ?_); refine goesL_ (some 12) rfl rfl Tryz.func52 (by kernel_rfl) rfl #[.string a0, .int .i64 a1] rfl qV ?_; (with_reducible refine (spec_l09Length.calls k a0 a1 t587 _ A3.out).mono ?_); rintro e w' ⟨rfl, ⟨nd, rfl⟩⟩; refine ⟨_, rfl, ?_⟩))
  go_ret2
  exact ⟨_, qE, by first | exact Kd.R_nil _ _ _ _ _ | exact Kd.N_nil _ _ _ _ _ | exact Kd.V_nil _ _ _ _ _ | exact Kd.Q_nil _ _ _ _ _ | exact Kd.S_nil _ _ _ _ _, qB HB.out⟩

 rw [if_pos c4] at H
 obtain ⟨c4b0, c4b1⟩ := zT c4
 clear c4
 obtain ⟨t588, A5, H⟩ := qN H
 try dsimp only at H
 have H' := Aside0.mk H
 clear H
 go_enter Tryz.func19, Tryz.ntmps19
 go_wp2_with (first | ((with_reducible refine gate_callee (f := 52) rfl ?_); refine goesL_ (some 12) rfl rfl Tryz.func52 (by kernel_rfl) rfl #[.string a0, .int .i64 a1] rfl qV ?_; (with_reducible refine (spec_l09Length.calls k a0 a1 t587 _ A3.out).mono ?_); rintro e w' ⟨rfl, ⟨nd, rfl⟩⟩; refine ⟨_, rfl, ?_⟩) | ((with_reducible refine gate_callee (f := 53) rfl ?_); refine goesL_ (some 18) rfl rfl Tryz.func53 (by kernel_rfl) rfl #[.string a0, .int .i64 a1] rfl qV ?_; (with_reducible refine (spec_l01Factors.calls k a0 a1 t588 _ A5.out).mono ?_); rintro e w6 ⟨v589, rfl, ho0, hb⟩; refine ⟨_, rfl, ?_⟩; have HO590 := Aside0.mk (Kd.R_lower ho0 (below_size (qB HB.out))); replace HB := Aside0.mk (below_step (qB HB.out) hb)))
 go_loopg [8] k (fun kq v8 w' => ∃ (x8_1 : Int), v8 = .int .i64 x8_1 ∧ Aside0 (spec_FirstTwo.l0 kq a0 t588 x8_1 = some (r1, r2)) ∧ Aside0 (kq ≤ k) ∧ Aside0 (Kd.R Kd.string 9 w' w.heap.size (fun _ => True) v589 t588) ∧ Aside0 (Below w.heap.size w w'))
 case atStart => exact ⟨(0), qF, H', ⟨Nat.le_refl _⟩, ⟨qR HO590.out⟩, ⟨qB HB.out⟩⟩
 case round =>
  clear H'
  obtain ⟨x8_1, rfl, HA, HK1, HO_7, HB⟩ := hrel
  cases gk with
  | zero => exact absurd HA.out (by simp [spec_FirstTwo.l0])
  | succ k1 =>
   have H := HA.out
   clear HA
   simp only [spec_FirstTwo.l0] at H
   by_cases c7 : x8_1 < (t588.length : Int)
   rotate_left
   ·
    rw [if_neg c7] at H
    have c7b0 : decide (x8_1 < (t588.length : Int)) = false := decide_eq_false c7
    clear c7
    simp only [Option.some.injEq, Prod.mk.injEq] at H
    obtain ⟨rfl, rfl⟩ := H
    obtain ⟨Ao22, co22, eo22⟩ := Kd.R_slice HO_7.out
    subst eo22
    go_wp2
    go_ret2
    exact ⟨_, qE, by first | exact Kd.R_nil _ _ _ _ _ | exact Kd.N_nil _ _ _ _ _ | exact Kd.V_nil _ _ _ _ _ | exact Kd.Q_nil _ _ _ _ _ | exact Kd.S_nil _ _ _ _ _, qB HB.out⟩
   rw [if_pos c7] at H
   have c7b0 : decide (x8_1 < (t588.length : Int)) = true := decide_eq_true c7
   clear c7
   have H' := Aside0.mk H
   clear H
   obtain ⟨Ao8, co8, eo8⟩ := Kd.R_slice HO_7.out
   subst eo8
   go_wp2
   go_loopg [9] k1 (fun kq v9 w' => ∃ (x9_2 : Int), v9 = .int .i64 x9_2 ∧ Aside0 (spec_FirstTwo.l1 kq a0 t588 x8_1 x9_2 = some (r1, r2)) ∧ Aside0 (kq ≤ k1) ∧ Aside0 (Kd.R Kd.string 9 w' w.heap.size (fun _ => True) (.slice Ao8 t588.length co8) t588) ∧ Aside0 (Below w.heap.size w w'))
   case atStart => exact ⟨(wrap64 (x8_1 + 1)), qF, H', ⟨Nat.le_refl _⟩, ⟨qR HO_7.out⟩, ⟨qB HB.out⟩⟩
   case round =>
    clear H'
    obtain ⟨x9_2, rfl, HA, HK2, HO_7, HB⟩ := hrel
    cases gk with
    | zero => exact absurd HA.out (by simp [spec_FirstTwo.l1])
    | succ k2 =>
     have H := HA.out
     clear HA
     simp only [spec_FirstTwo.l1] at H
     by_cases c9 : x9_2 < (t588.length : Int)
     rotate_left
     ·
      rw [if_neg c9] at H
      have c9b0 : decide (x9_2 < (t588.length : Int)) = false := decide_eq_false c9
      clear c9
      have H' := Aside0.mk H
      clear H
      go_wp2
      go_roundg k2
      case measure => have := HK1.out; have := HK2.out; omega
      case rel => exact ⟨(wrap64 (x8_1 + 1)), qF, H', ⟨by have := HK1.out; have := HK2.out; omega⟩, ⟨qR HO_7.out⟩, ⟨qB HB.out⟩⟩
     rw [if_pos c9] at H
     have c9b0 : decide (x9_2 < (t588.length : Int)) = true := decide_eq_true c9
     clear c9
     by_cases c10 : 0 ≤ x8_1
     rotate_left
     ·
      rw [if_neg c10] at H
      exact absurd H (by simp)
     rw [if_pos c10] at H
     have c10b0 : decide (0 ≤ x8_1) = true := decide_eq_true c10
     clear c10
     by_cases c11 : x8_1 < (t588.length : Int)
     rotate_left
     ·
      rw [if_neg c11] at H
      exact absurd H (by simp)
     rw [if_pos c11] at H
     have c11b0 : decide (x8_1 < (t588.length : Int)) = true := decide_eq_true c11
     clear c11
     by_cases c12 : 0 ≤ x9_2
     rotate_left
     ·
      rw [if_neg c12] at H
      exact absurd H (by simp)
     rw [if_pos c12] at H
     have c12b0 : decide (0 ≤ x9_2) = true := decide_eq_true c12
     clear c12
     obtain ⟨t593, A13, H⟩ := qN H
     try dsimp only at H
     by_cases c14 : t593 = true
     rotate_left
     ·
      replace c14 := Bool.eq_false_iff.mpr c14
      subst c14
      rw [if_neg (show ¬ (false = true) by decide)] at H
      have H' := Aside0.mk H
      clear H
      try go_wp2
      have n0_ := Aside0.mk (Kd.R_drew HO_7.out)
      have n1_ := Aside0.mk (below_drew1 HB.out)
      clear HO_7
      clear HB
      have HO_7 := n0_
      have HB := n1_
      clear n0_ n1_
      have p591 : 0 ≤ (x8_1 : Int) := of_decide_eq_true (by first | (with_reducible assumption) | assumption)
      have q591 : x8_1 < (t588.length : Int) := of_decide_eq_true (by first | (with_reducible assumption) | assumption)
      obtain ⟨ad591, e591, hx591_0⟩ := Kd.at_string (Kd.R_reads' HO_7.out).2.2 x8_1 p591 q591
      cases e591
      replace p591 := eq_true p591
      replace q591 := eq_true q591
      have p592 : 0 ≤ (x9_2 : Int) := of_decide_eq_true (by first | (with_reducible assumption) | assumption)
      have q592 : x9_2 < (t588.length : Int) := of_decide_eq_true (by first | (with_reducible assumption) | assumption)
      obtain ⟨ad592, e592, hx592_0⟩ := Kd.at_string (Kd.R_reads' HO_7.out).2.2 x9_2 p592 q592
      obtain rfl : ad591 = ad592 := (by injection e592)
      replace p592 := eq_true p592
      replace q592 := eq_true q592
      refine start_ (n := 10) (S := fun w' => w'.cell? (ad591.add (x8_1).toNat) = some (.string (rdOf ByteArray.empty t588 x8_1)) ∧ w'.cell? (ad591.add (x9_2).toNat) = some (.string (rdOf ByteArray.empty t588 x9_2))) (ds := []) #[false, false, false, false, false, false, false, false, false, false] (by kernel_rfl) rfl rfl ⟨hx591_0, hx592_0⟩ (fun hHeld => ?_); refine with_tabW spec_FirstTwo.tab11 spec_FirstTwo.bits11 (fun HT_ HW_ => ?_)
      generalize wr.drew = w20 at HO_7 HB hx591_0 hx592_0 hHeld ⊢
      refine pure_ (i := 0) (N := some 33) (v := ?_) (a' := ?_) #[true, false, false, false, false, false, false, false, false, false] rfl rfl (any_of HT_.out (by kernel_rfl)) (fun _ _ _ h => h) (Or.inl ⟨by rfl, ?_⟩) ?_ ?_
      rotate_left
      ·
       intro w'
       go_simp
       with_reducible rfl
      rotate_left
      ·
       simp only [Act.put, List.setIfInBounds_toArray, List.set_cons_zero, List.set_cons_succ, i64_w, i32_w]
       rfl
      refine pure_ (i := 1) (N := some 34) (v := ?_) (a' := ?_) #[true, true, false, false, false, false, false, false, false, false] rfl rfl (any_of HT_.out (by kernel_rfl)) (fun _ _ _ h => h) (Or.inl ⟨by rfl, ?_⟩) ?_ ?_
      rotate_left
      ·
       intro w'
       go_simp
       with_reducible rfl
      rotate_left
      ·
       simp only [Act.put, List.setIfInBounds_toArray, List.set_cons_zero, List.set_cons_succ, i64_w, i32_w]
       rfl
      refine pure_ (i := 2) (N := some 35) (v := ?_) (a' := ?_) #[true, true, true, false, false, false, false, false, false, false] rfl rfl (any_of HT_.out (by kernel_rfl)) (fun _ _ _ h => h) (Or.inl ⟨by rfl, ?_⟩) ?_ ?_
      rotate_left
      ·
       intro w'
       go_simp
       with_reducible rfl
      rotate_left
      ·
       simp only [Act.put, List.setIfInBounds_toArray, List.set_cons_zero, List.set_cons_succ, i64_w, i32_w]
       rfl
      refine pure_ (i := 3) (N := some 36) (v := ?_) (a' := ?_) #[true, true, true, true, false, false, false, false, false, false] rfl rfl (any_of HT_.out (by kernel_rfl)) (fun _ _ _ h => h) (Or.inl ⟨by rfl, ?_⟩) ?_ ?_
      rotate_left
      ·
       intro w'
       go_simp
       with_reducible rfl
      rotate_left
      ·
       simp only [Act.put, List.setIfInBounds_toArray, List.set_cons_zero, List.set_cons_succ, i64_w, i32_w]
       rfl
      refine pure_ (i := 5) (N := some 38) (v := ?_) (a' := ?_) #[true, true, true, true, false, true, false, false, false, false] rfl rfl (any_of HT_.out (by kernel_rfl)) (fun _ _ _ h => h) (Or.inl ⟨by rfl, ?_⟩) ?_ ?_
      rotate_left
      ·
       intro w'
       go_simp
       with_reducible rfl
      rotate_left
      ·
       simp only [Act.put, List.setIfInBounds_toArray, List.set_cons_zero, List.set_cons_succ, i64_w, i32_w]
       rfl
      refine pure_ (i := 6) (N := some 39) (v := ?_) (a' := ?_) #[true, true, true, true, false, true, true, false, false, false] rfl rfl (any_of HT_.out (by kernel_rfl)) (fun _ _ _ h => h) (Or.inl ⟨by rfl, ?_⟩) ?_ ?_
      rotate_left
      ·
       intro w'
       go_simp
       with_reducible rfl
      rotate_left
      ·
       simp only [Act.put, List.setIfInBounds_toArray, List.set_cons_zero, List.set_cons_succ, i64_w, i32_w]
       rfl
      refine pure_ (i := 7) (N := some 40) (v := ?_) (a' := ?_) #[true, true, true, true, false, true, true, true, false, false] rfl rfl (any_of HT_.out (by kernel_rfl)) (fun _ _ _ h => h) (Or.inl ⟨by rfl, ?_⟩) ?_ ?_
      rotate_left
      ·
       intro w'
       go_simp
       with_reducible rfl
      rotate_left
      ·
       simp only [Act.put, List.setIfInBounds_toArray, List.set_cons_zero, List.set_cons_succ, i64_w, i32_w]
       rfl
      refine take_ (i := 4) (N := some 37) (v := ?_) (a' := ?_) #[true, true, true, true, true, true, true, true, false, false] rfl rfl (take_ofW HT_.out HW_.out (by kernel_rfl)) (fun _ _ _ h => h) (Or.inl ⟨by rfl, ?_⟩) hHeld ?_ ?_
      rotate_left
      ·
       rintro w' ⟨s0, s1⟩
       go_simp
       with_reducible rfl
      rotate_left
      ·
       simp only [Act.put, List.setIfInBounds_toArray, List.set_cons_zero, List.set_cons_succ, i64_w, i32_w]
       rfl
      refine take_ (i := 8) (N := some 41) (v := ?_) (a' := ?_) #[true, true, true, true, true, true, true, true, true, false] rfl rfl (take_ofW HT_.out HW_.out (by kernel_rfl)) (fun _ _ _ h => h) (Or.inl ⟨by rfl, ?_⟩) hHeld ?_ ?_
      rotate_left
      ·
       rintro w' ⟨s0, s1⟩
       go_simp
       with_reducible rfl
      rotate_left
      ·
       simp only [Act.put, List.setIfInBounds_toArray, List.set_cons_zero, List.set_cons_succ, i64_w, i32_w]
       rfl
      refine one_ (i := 9) (N := some 42) #[true, true, true, true, true, true, true, true, true, true] rfl rfl (one_of HT_.out (by kernel_rfl)) (by decide) (fun K hK => ?_)
      refine goes_ Tryz.func54 (by kernel_rfl) rfl #[.string a0, .string (rdOf ByteArray.empty t588 x8_1), .string (rdOf ByteArray.empty t588 x9_2)] (by rfl) rfl rfl qV ?_
      with_reducible refine (spec_l09Two.calls k2 a0 (rdOf ByteArray.empty t588 x8_1) (rdOf ByteArray.empty t588 x9_2) false _ A13.out).mono ?_
      rintro e w21 ⟨rfl, hb⟩
      have HS0_ := (hb.cell (World.block_lt_of_cell? _ _ (hHeld.1))).trans (hHeld.1)
      have HS1_ := (hb.cell (World.block_lt_of_cell? _ _ (hHeld.2))).trans (hHeld.2)
      refine ⟨_, rfl, ?_⟩
      have n0_ := Aside0.mk (Kd.R_below (qR HO_7.out) hb)
      have n1_ := Aside0.mk (below_step (qB HB.out) hb)
      clear HO_7
      clear HB
      have HO_7 := n0_
      have HB := n1_
      clear n0_ n1_
      (try clear hb)
      (try clear hb2)
      (try clear hk)
      (try clear hi)
      refine hK.out _ _ ⟨HS0_, HS1_⟩ (fun hHeld => ?_)
      clear hK K
      refine norm_ (a' := ?_) ?_ ?_
      rotate_left
      ·
       show Act.put _ (some 42) _ = _
       simp only [Act.put, List.setIfInBounds_toArray, List.set_cons_zero, List.set_cons_succ, i64_w, i32_w]
       rfl
      refine done_ (done_of HT_.out (by kernel_rfl)) ?_
      try go_wp2
      go_roundg k2
      case measure => have := HK1.out; have := HK2.out; omega
      case rel => exact ⟨(wrap64 (x9_2 + 1)), qF, H', ⟨by have := HK1.out; have := HK2.out; omega⟩, ⟨qR HO_7.out⟩, ⟨qB HB.out⟩⟩
     subst c14
     rw [if_pos rfl] at H
     obtain ⟨y596, hy596⟩ : ∃ y_ : List ByteArray, y_ = (([rdOf ByteArray.empty t588 x8_1, rdOf ByteArray.empty t588 x9_2] : List ByteArray)) := ⟨_, rfl⟩
     replace H : (some (y596, 0)) = some (r1, r2) := by first | (rw [hy596]; with_reducible exact H) | (have H2_ := (Option.bind_some _ _).symm.trans H; rw [hy596]; with_reducible exact H2_) | (have H2_ := (Option.bind_some _ _).symm.trans H; with_reducible exact H2_) | with_reducible exact H | (rw [hy596]; exact H) | exact H
     have Ny596 := Aside0.mk hy596
     clear hy596
     simp only [Option.some.injEq, Prod.mk.injEq] at H
     obtain ⟨rfl, rfl⟩ := H
     try go_wp2
     have n0_ := Aside0.mk (Kd.R_drew HO_7.out)
     have n1_ := Aside0.mk (below_drew1 HB.out)
     clear HO_7
     clear HB
     have HO_7 := n0_
     have HB := n1_
     clear n0_ n1_
     have p591 : 0 ≤ (x8_1 : Int) := of_decide_eq_true (by first | (with_reducible assumption) | assumption)
     have q591 : x8_1 < (t588.length : Int) := of_decide_eq_true (by first | (with_reducible assumption) | assumption)
     obtain ⟨ad591, e591, hx591_0⟩ := Kd.at_string (Kd.R_reads' HO_7.out).2.2 x8_1 p591 q591
     cases e591
     replace p591 := eq_true p591
     replace q591 := eq_true q591
     have p592 : 0 ≤ (x9_2 : Int) := of_decide_eq_true (by first | (with_reducible assumption) | assumption)
     have q592 : x9_2 < (t588.length : Int) := of_decide_eq_true (by first | (with_reducible assumption) | assumption)
     obtain ⟨ad592, e592, hx592_0⟩ := Kd.at_string (Kd.R_reads' HO_7.out).2.2 x9_2 p592 q592
     obtain rfl : ad591 = ad592 := (by injection e592)
     replace p592 := eq_true p592
     replace q592 := eq_true q592
     refine start_ (n := 10) (S := fun w' => w'.cell? (ad591.add (x8_1).toNat) = some (.string (rdOf ByteArray.empty t588 x8_1)) ∧ w'.cell? (ad591.add (x9_2).toNat) = some (.string (rdOf ByteArray.empty t588 x9_2))) (ds := []) #[false, false, false, false, false, false, false, false, false, false] (by kernel_rfl) rfl rfl ⟨hx591_0, hx592_0⟩ (fun hHeld => ?_); refine with_tabW spec_FirstTwo.tab11 spec_FirstTwo.bits11 (fun HT_ HW_ => ?_)
     generalize wr.drew = w15 at HO_7 HB hx591_0 hx592_0 hHeld ⊢
     refine pure_ (i := 0) (N := some 33) (v := ?_) (a' := ?_) #[true, false, false, false, false, false, false, false, false, false] rfl rfl (any_of HT_.out (by kernel_rfl)) (fun _ _ _ h => h) (Or.inl ⟨by rfl, ?_⟩) ?_ ?_
     rotate_left
     ·
      intro w'
      go_simp
      with_reducible rfl
     rotate_left
     ·
      simp only [Act.put, List.setIfInBounds_toArray, List.set_cons_zero, List.set_cons_succ, i64_w, i32_w]
      rfl
     refine pure_ (i := 1) (N := some 34) (v := ?_) (a' := ?_) #[true, true, false, false, false, false, false, false, false, false] rfl rfl (any_of HT_.out (by kernel_rfl)) (fun _ _ _ h => h) (Or.inl ⟨by rfl, ?_⟩) ?_ ?_
     rotate_left
     ·
      intro w'
      go_simp
      with_reducible rfl
     rotate_left
     ·
      simp only [Act.put, List.setIfInBounds_toArray, List.set_cons_zero, List.set_cons_succ, i64_w, i32_w]
      rfl
     refine pure_ (i := 2) (N := some 35) (v := ?_) (a' := ?_) #[true, true, true, false, false, false, false, false, false, false] rfl rfl (any_of HT_.out (by kernel_rfl)) (fun _ _ _ h => h) (Or.inl ⟨by rfl, ?_⟩) ?_ ?_
     rotate_left
     ·
      intro w'
      go_simp
      with_reducible rfl
     rotate_left
     ·
      simp only [Act.put, List.setIfInBounds_toArray, List.set_cons_zero, List.set_cons_succ, i64_w, i32_w]
      rfl
     refine pure_ (i := 3) (N := some 36) (v := ?_) (a' := ?_) #[true, true, true, true, false, false, false, false, false, false] rfl rfl (any_of HT_.out (by kernel_rfl)) (fun _ _ _ h => h) (Or.inl ⟨by rfl, ?_⟩) ?_ ?_
     rotate_left
     ·
      intro w'
      go_simp
      with_reducible rfl
     rotate_left
     ·
      simp only [Act.put, List.setIfInBounds_toArray, List.set_cons_zero, List.set_cons_succ, i64_w, i32_w]
      rfl
     refine pure_ (i := 5) (N := some 38) (v := ?_) (a' := ?_) #[true, true, true, true, false, true, false, false, false, false] rfl rfl (any_of HT_.out (by kernel_rfl)) (fun _ _ _ h => h) (Or.inl ⟨by rfl, ?_⟩) ?_ ?_
     rotate_left
     ·
      intro w'
      go_simp
      with_reducible rfl
     rotate_left
     ·
      simp only [Act.put, List.setIfInBounds_toArray, List.set_cons_zero, List.set_cons_succ, i64_w, i32_w]
      rfl
     refine pure_ (i := 6) (N := some 39) (v := ?_) (a' := ?_) #[true, true, true, true, false, true, true, false, false, false] rfl rfl (any_of HT_.out (by kernel_rfl)) (fun _ _ _ h => h) (Or.inl ⟨by rfl, ?_⟩) ?_ ?_
     rotate_left
     ·
      intro w'
      go_simp
      with_reducible rfl
     rotate_left
     ·
      simp only [Act.put, List.setIfInBounds_toArray, List.set_cons_zero, List.set_cons_succ, i64_w, i32_w]
      rfl
     refine pure_ (i := 7) (N := some 40) (v := ?_) (a' := ?_) #[true, true, true, true, false, true, true, true, false, false] rfl rfl (any_of HT_.out (by kernel_rfl)) (fun _ _ _ h => h) (Or.inl ⟨by rfl, ?_⟩) ?_ ?_
     rotate_left
     ·
      intro w'
      go_simp
      with_reducible rfl
     rotate_left
     ·
      simp only [Act.put, List.setIfInBounds_toArray, List.set_cons_zero, List.set_cons_succ, i64_w, i32_w]
      rfl
     refine take_ (i := 4) (N := some 37) (v := ?_) (a' := ?_) #[true, true, true, true, true, true, true, true, false, false] rfl rfl (take_ofW HT_.out HW_.out (by kernel_rfl)) (fun _ _ _ h => h) (Or.inl ⟨by rfl, ?_⟩) hHeld ?_ ?_
     rotate_left
     ·
      rintro w' ⟨s0, s1⟩
      go_simp
      with_reducible rfl
     rotate_left
     ·
      simp only [Act.put, List.setIfInBounds_toArray, List.set_cons_zero, List.set_cons_succ, i64_w, i32_w]
      rfl
     refine take_ (i := 8) (N := some 41) (v := ?_) (a' := ?_) #[true, true, true, true, true, true, true, true, true, false] rfl rfl (take_ofW HT_.out HW_.out (by kernel_rfl)) (fun _ _ _ h => h) (Or.inl ⟨by rfl, ?_⟩) hHeld ?_ ?_
     rotate_left
     ·
      rintro w' ⟨s0, s1⟩
      go_simp
      with_reducible rfl
     rotate_left
     ·
      simp only [Act.put, List.setIfInBounds_toArray, List.set_cons_zero, List.set_cons_succ, i64_w, i32_w]
      rfl
     refine one_ (i := 9) (N := some 42) #[true, true, true, true, true, true, true, true, true, true] rfl rfl (one_of HT_.out (by kernel_rfl)) (by decide) (fun K hK => ?_)
     refine goes_ Tryz.func54 (by kernel_rfl) rfl #[.string a0, .string (rdOf ByteArray.empty t588 x8_1), .string (rdOf ByteArray.empty t588 x9_2)] (by rfl) rfl rfl qV ?_
     with_reducible refine (spec_l09Two.calls k2 a0 (rdOf ByteArray.empty t588 x8_1) (rdOf ByteArray.empty t588 x9_2) true _ A13.out).mono ?_
     rintro e w16 ⟨rfl, hb⟩
     have HS0_ := (hb.cell (World.block_lt_of_cell? _ _ (hHeld.1))).trans (hHeld.1)
     have HS1_ := (hb.cell (World.block_lt_of_cell? _ _ (hHeld.2))).trans (hHeld.2)
     refine ⟨_, rfl, ?_⟩
     have n0_ := Aside0.mk (Kd.R_below (qR HO_7.out) hb)
     have n1_ := Aside0.mk (below_step (qB HB.out) hb)
     clear HO_7
     clear HB
     have HO_7 := n0_
     have HB := n1_
     clear n0_ n1_
     (try clear hb)
     (try clear hb2)
     (try clear hk)
     (try clear hi)
     refine hK.out _ _ ⟨HS0_, HS1_⟩ (fun hHeld => ?_)
     clear hK K
     refine norm_ (a' := ?_) ?_ ?_
     rotate_left
     ·
      show Act.put _ (some 42) _ = _
      simp only [Act.put, List.setIfInBounds_toArray, List.set_cons_zero, List.set_cons_succ, i64_w, i32_w]
      rfl
     refine done_ (done_of HT_.out (by kernel_rfl)) ?_
     try go_wp2
     have n0_ := Aside0.mk (Kd.R_drew HO_7.out)
     have n1_ := Aside0.mk (below_drew1 HB.out)
     clear HO_7
     clear HB
     have HO_7 := n0_
     have HB := n1_
     clear n0_ n1_
     have p594 : 0 ≤ (x8_1 : Int) := of_decide_eq_true (by first | (with_reducible assumption) | assumption)
     have q594 : x8_1 < (t588.length : Int) := of_decide_eq_true (by first | (with_reducible assumption) | assumption)
     obtain ⟨ad594, e594, hx594_0⟩ := Kd.at_string (Kd.R_reads' HO_7.out).2.2 x8_1 p594 q594
     obtain rfl : ad591 = ad594 := (by injection e594)
     replace p594 := eq_true p594
     replace q594 := eq_true q594
     have p595 : 0 ≤ (x9_2 : Int) := of_decide_eq_true (by first | (with_reducible assumption) | assumption)
     have q595 : x9_2 < (t588.length : Int) := of_decide_eq_true (by first | (with_reducible assumption) | assumption)
     obtain ⟨ad595, e595, hx595_0⟩ := Kd.at_string (Kd.R_reads' HO_7.out).2.2 x9_2 p595 q595
     obtain rfl : ad591 = ad595 := (by injection e595)
     replace p595 := eq_true p595
     replace q595 := eq_true q595
     refine start_ (n := 11) (S := fun w' => w'.cell? (ad591.add (x8_1).toNat) = some (.string (rdOf ByteArray.empty t588 x8_1)) ∧ w'.cell? (ad591.add (x9_2).toNat) = some (.string (rdOf ByteArray.empty t588 x9_2))) (ds := []) #[false, false, false, false, false, false, false, false, false, false, false] (by kernel_rfl) rfl rfl ⟨hx594_0, hx595_0⟩ (fun hHeld => ?_); refine with_tabW spec_FirstTwo.tab12 spec_FirstTwo.bits12 (fun HT_ HW_ => ?_)
     generalize w16.drew = w17 at HO_7 HB hx594_0 hx595_0 hHeld ⊢
     refine pure_ (i := 0) (N := some 43) (v := ?_) (a' := ?_) #[true, false, false, false, false, false, false, false, false, false, false] rfl rfl (any_of HT_.out (by kernel_rfl)) (fun _ _ _ h => h) (Or.inl ⟨by rfl, ?_⟩) ?_ ?_
     rotate_left
     ·
      intro w'
      go_simp
      with_reducible rfl
     rotate_left
     ·
      simp only [Act.put, List.setIfInBounds_toArray, List.set_cons_zero, List.set_cons_succ, i64_w, i32_w]
      rfl
     refine pure_ (i := 1) (N := some 44) (v := ?_) (a' := ?_) #[true, true, false, false, false, false, false, false, false, false, false] rfl rfl (any_of HT_.out (by kernel_rfl)) (fun _ _ _ h => h) (Or.inl ⟨by rfl, ?_⟩) ?_ ?_
     rotate_left
     ·
      intro w'
      go_simp
      with_reducible rfl
     rotate_left
     ·
      simp only [Act.put, List.setIfInBounds_toArray, List.set_cons_zero, List.set_cons_succ, i64_w, i32_w]
      rfl
     refine pure_ (i := 2) (N := some 45) (v := ?_) (a' := ?_) #[true, true, true, false, false, false, false, false, false, false, false] rfl rfl (any_of HT_.out (by kernel_rfl)) (fun _ _ _ h => h) (Or.inl ⟨by rfl, ?_⟩) ?_ ?_
     rotate_left
     ·
      intro w'
      go_simp
      with_reducible rfl
     rotate_left
     ·
      simp only [Act.put, List.setIfInBounds_toArray, List.set_cons_zero, List.set_cons_succ, i64_w, i32_w]
      rfl
     refine pure_ (i := 4) (N := some 47) (v := ?_) (a' := ?_) #[true, true, true, false, true, false, false, false, false, false, false] rfl rfl (any_of HT_.out (by kernel_rfl)) (fun _ _ _ h => h) (Or.inl ⟨by rfl, ?_⟩) ?_ ?_
     rotate_left
     ·
      intro w'
      go_simp
      with_reducible rfl
     rotate_left
     ·
      simp only [Act.put, List.setIfInBounds_toArray, List.set_cons_zero, List.set_cons_succ, i64_w, i32_w]
      rfl
     refine pure_ (i := 5) (N := some 48) (v := ?_) (a' := ?_) #[true, true, true, false, true, true, false, false, false, false, false] rfl rfl (any_of HT_.out (by kernel_rfl)) (fun _ _ _ h => h) (Or.inl ⟨by rfl, ?_⟩) ?_ ?_
     rotate_left
     ·
      intro w'
      go_simp
      with_reducible rfl
     rotate_left
     ·
      simp only [Act.put, List.setIfInBounds_toArray, List.set_cons_zero, List.set_cons_succ, i64_w, i32_w]
      rfl
     refine pure_ (i := 6) (N := some 49) (v := ?_) (a' := ?_) #[true, true, true, false, true, true, true, false, false, false, false] rfl rfl (any_of HT_.out (by kernel_rfl)) (fun _ _ _ h => h) (Or.inl ⟨by rfl, ?_⟩) ?_ ?_
     rotate_left
     ·
      intro w'
      go_simp
      with_reducible rfl
     rotate_left
     ·
      simp only [Act.put, List.setIfInBounds_toArray, List.set_cons_zero, List.set_cons_succ, i64_w, i32_w]
      rfl
     refine take_ (i := 3) (N := some 46) (v := ?_) (a' := ?_) #[true, true, true, true, true, true, true, false, false, false, false] rfl rfl (take_ofW HT_.out HW_.out (by kernel_rfl)) (fun _ _ _ h => h) (Or.inl ⟨by rfl, ?_⟩) hHeld ?_ ?_
     rotate_left
     ·
      rintro w' ⟨s0, s1⟩
      go_simp
      with_reducible rfl
     rotate_left
     ·
      simp only [Act.put, List.setIfInBounds_toArray, List.set_cons_zero, List.set_cons_succ, i64_w, i32_w]
      rfl
     refine take_ (i := 7) (N := some 50) (v := ?_) (a' := ?_) #[true, true, true, true, true, true, true, true, false, false, false] rfl rfl (take_ofW HT_.out HW_.out (by kernel_rfl)) (fun _ _ _ h => h) (Or.inl ⟨by rfl, ?_⟩) hHeld ?_ ?_
     rotate_left
     ·
      rintro w' ⟨s0, s1⟩
      go_simp
      with_reducible rfl
     rotate_left
     ·
      simp only [Act.put, List.setIfInBounds_toArray, List.set_cons_zero, List.set_cons_succ, i64_w, i32_w]
      rfl
     refine one_ (i := 8) (N := some 51) #[true, true, true, true, true, true, true, true, true, false, false] rfl rfl (one_of HT_.out (by kernel_rfl)) (by decide) (fun K hK => ?_)
     refine Kd.R_lit_step Kd.string _ 9 ?hg (N := 51) ?hd (xs := ([rdOf ByteArray.empty t588 x8_1, rdOf ByteArray.empty t588 x9_2] : List ByteArray)) (inner := [.string (rdOf ByteArray.empty t588 x8_1), .string (rdOf ByteArray.empty t588 x9_2)]) (ok := fun _ => True) (okp := fun _ => True) ?hr ?hp (fun _ hk => hk) trivial (Below.refl _ _) (Nat.le_refl _) (by simp) ?_; (case hd => rfl); (case hg => rfl); (case hr => first | (go_simp; done) | (go_simp; rfl)); (case hp => exact (Reps.one (show Kd.M Kd.string _ _ _ (rdOf ByteArray.empty t588 x8_1) [.string (rdOf ByteArray.empty t588 x8_1)] from rfl) (Reps.one (show Kd.M Kd.string _ _ _ (rdOf ByteArray.empty t588 x9_2) [.string (rdOf ByteArray.empty t588 x9_2)] from rfl) (Reps.none _ _))))
     intro v597 w18 ho19 hb hg_ hnew_
     have HS0_ := (hb.cell (World.block_lt_of_cell? _ _ (hHeld.1))).trans (hHeld.1)
     have HS1_ := (hb.cell (World.block_lt_of_cell? _ _ (hHeld.2))).trans (hHeld.2)
     clear hg_ hnew_
     (first | rw [← Ny596.out] at ho19 | (simp only [Int.reduceToNat] at ho19; rw [← Ny596.out] at ho19))
     have n0_ := Aside0.mk (Kd.R_elder' (qR HO_7.out) (Kd.R_base ho19) hb)
     have n1_ := Aside0.mk (Kd.R_lower (Kd.R_new' ho19 (Kd.R_lt (qR HO_7.out))) (below_size (qB HB.out)))
     have n2_ := Aside0.mk (below_step (qB HB.out) hb)
     clear HO_7
     clear HB
     have HO_7 := n0_
     have HO598 := n1_
     have HB := n2_
     clear n0_ n1_ n2_
     clear hb ho19
     refine hK.out _ _ ⟨HS0_, HS1_⟩ (fun hHeld => ?_)
     clear hK K
     refine norm_ (a' := ?_) ?_ ?_
     rotate_left
     ·
      show Act.put _ (some 51) _ = _
      simp only [Act.put, List.setIfInBounds_toArray, List.set_cons_zero, List.set_cons_succ, i64_w, i32_w]
      rfl
     refine pure_ (i := 9) (N := some 4) (v := ?_) (a' := ?_) #[true, true, true, true, true, true, true, true, true, true, false] rfl rfl (any_of HT_.out (by kernel_rfl)) (fun _ _ _ h => h) (Or.inl ⟨by rfl, ?_⟩) ?_ ?_
     rotate_left
     ·
      intro w'
      go_simp
      with_reducible rfl
     rotate_left
     ·
      simp only [Act.put, List.setIfInBounds_toArray, List.set_cons_zero, List.set_cons_succ, i64_w, i32_w]
      rfl
     refine pure_ (i := 10) (N := some 5) (v := ?_) (a' := ?_) #[true, true, true, true, true, true, true, true, true, true, true] rfl rfl (any_of HT_.out (by kernel_rfl)) (fun _ _ _ h => h) (Or.inl ⟨by rfl, ?_⟩) ?_ ?_
     rotate_left
     ·
      intro w'
      go_simp
      with_reducible rfl
     rotate_left
     ·
      simp only [Act.put, List.setIfInBounds_toArray, List.set_cons_zero, List.set_cons_succ, i64_w, i32_w]
      rfl
     refine done_ (done_of HT_.out (by kernel_rfl)) ?_
     try go_wp2
     go_ret2
     exact ⟨_, qE, by (with_reducible repeat (first | apply Kd.R_alloc | apply Kd.R_drewN | apply Kd.R_drew)); exact Kd.R_mono HO598.out (fun _ hk => trivial), qB HB.out⟩
end Go.Proofs.YtcfphjjdbccnoaaGreat.PF

namespace Go.Proofs.YtcfphjjdbccnoaaGreat.PF
open Go.RowKit Go.Proofs.YtcfphjjdbccnoaaGreatW.PrintWords Go.Proofs.YtcfphjjdbccnoaaGreatW.PrintLast Go.Proofs.YtcfphjjdbccnoaaGreatW.PrintMore
attribute [local go_sem] max2_int min2_int max_two min_two max_three min_three max_four min_four   -- for this text's walks alone
set_option linter.unusedVariables false
set_option linter.unusedSimpArgs false

/-! ### laws_words5: function 20 -/
def laws_words5.l0 : Nat → List ByteArray → List ByteArray → Int → Option (Bool)
 | 0, _, _, _ => none
 | k + 1, x0, x1, x5 => if x5 < (x0.length : Int) then (if 0 ≤ x5 then (if x5 < (x1.length : Int) then (if (rdOf ByteArray.empty x0 x5).toList = (rdOf ByteArray.empty x1 x5).toList then (laws_words5.l0 k x0 x1 (wrap64 (x5 + 1))) else (some false)) else (none)) else (none)) else (some true)
def laws_words5.f (k : Nat) (l0 : List ByteArray) (l1 : List ByteArray) : Option (Bool) := if (l0.length : Int) = (l1.length : Int) then (laws_words5.l0 k l0 l1 0) else (some false)
theorem laws_words5.mono_l : ∀ k, (∀ y0 y1 y2, LeO (laws_words5.l0 k y0 y1 y2) (laws_words5.l0 (k + 1) y0 y1 y2))
 | 0 => fun _ _ _ r h => by simp [laws_words5.l0] at h
 | k + 1 => by
  have ih0 := laws_words5.mono_l k
  ·
   intro y0 y1 y2
   unfold laws_words5.l0
   with_reducible repeat' first
   | exact ih0 _ _ _
   | exact LeO.refl _
   | exact LeO.none _
   | refine LeO.ite ?_ ?_
   | refine LeO.bind ?_ (fun _ => ?_)
theorem laws_words5.mono : ∀ a0 a1 k, LeO (laws_words5.f k a0 a1) (laws_words5.f (k + 1) a0 a1) := by
 intro a0 a1 k
 have ih0 := laws_words5.mono_l k
 unfold laws_words5.f
 with_reducible repeat' first
   | exact ih0 _ _ _
   | exact LeO.refl _
   | exact LeO.none _
   | refine LeO.ite ?_ ?_
   | refine LeO.bind ?_ (fun _ => ?_)
set_option maxHeartbeats 8000000 in
set_option maxRecDepth 100000 in
theorem laws_words5.calls (k : Nat) (A0 : Option Addr) (c0 : Nat) (l0 : List ByteArray) (A1 : Option Addr) (c1 : Nat) (l1 : List ByteArray) (r : Bool) (w : World) (hr0 : Kd.C Kd.string w A0 l0.length l0) (hc0 : l0.length ≤ c0) (hr1 : Kd.C Kd.string w A1 l1.length l1) (hc1 : l1.length ≤ c1) (h : laws_words5.f k l0 l1 = some r) :
  Calls Tryz.prog 20 #[.slice A0 l0.length c0, .slice A1 l1.length c1] w fun e w' => e = .returned (.bool r) ∧ Drawn0 w w' := by
 have HR0 := Aside0.mk hr0
 have HC0 := Aside0.mk hc0
 clear hr0 hc0
 have HR1 := Aside0.mk hr1
 have HC1 := Aside0.mk hc1
 clear hr1 hc1
 have H : (if (l0.length : Int) = (l1.length : Int) then (laws_words5.l0 k l0 l1 0) else (some false)) = some r := h
 clear h
 by_cases c3 : (l0.length : Int) = (l1.length : Int)
 rotate_left
 ·
  rw [if_neg c3] at H
  obtain ⟨c3b0, c3b1⟩ := zF c3
  have c3b2 : (l0.length == l1.length) = false := by first | simpa using c3 | (simp at c3 ⊢; omega)
  obtain rfl := Option.some.inj H
  go_enter Tryz.func20, Tryz.ntmps20
  go_wp2
  repeat (go_quiet (fail); try go_wp2)
  go_ret
  exact ⟨by first | rfl | (simp; done) | (simp [*]; done) | (simp; rw [Bool.eq_iff_iff]; simp; done), by repeat (first | exact Drawn0.refl _ | apply Drawn0.step)⟩

 rw [if_pos c3] at H
 obtain ⟨c3b0, c3b1⟩ := zT c3
 have c3b2 : (l0.length == l1.length) = true := by first | simpa using c3 | (simp at c3 ⊢; omega)
 clear c3
 have H' := Aside0.mk H
 clear H
 go_enter Tryz.func20, Tryz.ntmps20
 go_wp2
 repeat (go_quiet (fail); try go_wp2)
 go_loopg [5] k (fun kq v5 w' => ∃ (x5_1 : Int), v5 = .int .i64 x5_1 ∧ Aside0 (laws_words5.l0 kq l0 l1 x5_1 = some r) ∧ Aside0 (kq ≤ k) ∧ Drawn0 w w')
 case atStart => exact ⟨(0), qF, H', ⟨Nat.le_refl _⟩, by repeat (first | exact Drawn0.refl _ | apply Drawn0.step)⟩
 case round =>
  clear H'
  obtain ⟨x5_1, rfl, HA, HK1, ⟨m1, rfl⟩⟩ := hrel
  cases gk with
  | zero => exact absurd HA.out (by simp [laws_words5.l0])
  | succ k1 =>
   have H := HA.out
   clear HA
   simp only [laws_words5.l0] at H
   by_cases c4 : x5_1 < (l0.length : Int)
   rotate_left
   ·
    rw [if_neg c4] at H
    have c4b0 : decide (x5_1 < (l0.length : Int)) = false := decide_eq_false c4
    clear c4
    obtain rfl := Option.some.inj H
    go_wp2
    repeat (go_quiet (fail); try go_wp2)
    go_ret
    exact ⟨by first | rfl | (simp; done) | (simp [*]; done) | (simp; rw [Bool.eq_iff_iff]; simp; done), by repeat (first | exact Drawn0.refl _ | apply Drawn0.step)⟩
   rw [if_pos c4] at H
   have c4b0 : decide (x5_1 < (l0.length : Int)) = true := decide_eq_true c4
   clear c4
   by_cases c5 : 0 ≤ x5_1
   rotate_left
   ·
    rw [if_neg c5] at H
    exact absurd H (by simp)
   rw [if_pos c5] at H
   have c5b0 : decide (0 ≤ x5_1) = true := decide_eq_true c5
   clear c5
   by_cases c6 : x5_1 < (l1.length : Int)
   rotate_left
   ·
    rw [if_neg c6] at H
    exact absurd H (by simp)
   rw [if_pos c6] at H
   have c6b0 : decide (x5_1 < (l1.length : Int)) = true := decide_eq_true c6
   clear c6
   by_cases c7 : (rdOf ByteArray.empty l0 x5_1).toList = (rdOf ByteArray.empty l1 x5_1).toList
   rotate_left
   ·
    rw [if_neg c7] at H
    obtain ⟨c7b0, c7b1⟩ := zF c7
    obtain rfl := Option.some.inj H
    have p599 : 0 ≤ (x5_1 : Int) := of_decide_eq_true (by first | (with_reducible assumption) | assumption)
    have q599 : x5_1 < (l0.length : Int) := of_decide_eq_true (by first | (with_reducible assumption) | assumption)
    obtain ⟨ad599, e599, hx599_0⟩ := Kd.at_string HR0.out x5_1 p599 q599
    cases e599
    replace p599 := eq_true p599
    replace q599 := eq_true q599
    have p600 : 0 ≤ (x5_1 : Int) := of_decide_eq_true (by first | (with_reducible assumption) | assumption)
    have q600 : x5_1 < (l1.length : Int) := of_decide_eq_true (by first | (with_reducible assumption) | assumption)
    obtain ⟨ad600, e600, hx600_0⟩ := Kd.at_string HR1.out x5_1 p600 q600
    cases e600
    replace p600 := eq_true p600
    replace q600 := eq_true q600
    go_wp2
    repeat (go_quiet (fail); try go_wp2)
    go_ret
    exact ⟨by first | rfl | (simp; done) | (simp [*]; done) | (simp; rw [Bool.eq_iff_iff]; simp; done), by repeat (first | exact Drawn0.refl _ | apply Drawn0.step)⟩
   rw [if_pos c7] at H
   obtain ⟨c7b0, c7b1⟩ := zT c7
   clear c7
   have H' := Aside0.mk H
   clear H
   have p599 : 0 ≤ (x5_1 : Int) := of_decide_eq_true (by first | (with_reducible assumption) | assumption)
   have q599 : x5_1 < (l0.length : Int) := of_decide_eq_true (by first | (with_reducible assumption) | assumption)
   obtain ⟨ad599, e599, hx599_0⟩ := Kd.at_string HR0.out x5_1 p599 q599
   cases e599
   replace p599 := eq_true p599
   replace q599 := eq_true q599
   have p600 : 0 ≤ (x5_1 : Int) := of_decide_eq_true (by first | (with_reducible assumption) | assumption)
   have q600 : x5_1 < (l1.length : Int) := of_decide_eq_true (by first | (with_reducible assumption) | assumption)
   obtain ⟨ad600, e600, hx600_0⟩ := Kd.at_string HR1.out x5_1 p600 q600
   cases e600
   replace p600 := eq_true p600
   replace q600 := eq_true q600
   go_wp2
   repeat (go_quiet (fail); try go_wp2)
   go_roundg k1
   case measure => have := HK1.out; omega
   case rel => exact ⟨(wrap64 (x5_1 + 1)), qF, H', ⟨by have := HK1.out; omega⟩, by repeat (first | exact Drawn0.refl _ | apply Drawn0.step)⟩
end Go.Proofs.YtcfphjjdbccnoaaGreat.PF

namespace Go.Proofs.YtcfphjjdbccnoaaGreat.PF
open Go.RowKit Go.Proofs.YtcfphjjdbccnoaaGreatW.PrintWords Go.Proofs.YtcfphjjdbccnoaaGreatW.PrintLast Go.Proofs.YtcfphjjdbccnoaaGreatW.PrintMore
attribute [local go_sem] max2_int min2_int max_two min_two max_three min_three max_four min_four   -- for this text's walks alone
set_option linter.unusedVariables false
set_option linter.unusedSimpArgs false

/-! ### spec_DrawIsSeed: function 22 -/
def spec_DrawIsSeed.f (k : Nat) (l0 : List Int) : Option (ByteArray × ByteArray) := (spec_l09With.f k l0).bind fun bt609 => (some (bt609.1, bt609.2))
theorem spec_DrawIsSeed.mono : ∀ a0 k, LeO (spec_DrawIsSeed.f k a0) (spec_DrawIsSeed.f (k + 1) a0) := by
 intro a0 k
 unfold spec_DrawIsSeed.f
 with_reducible repeat' first
   | exact spec_l09With.mono _ _
   | exact LeO.refl _
   | exact LeO.none _
   | refine LeO.ite ?_ ?_
   | refine LeO.bind ?_ (fun _ => ?_)
set_option maxHeartbeats 8000000 in
set_option maxRecDepth 100000 in
theorem spec_DrawIsSeed.calls (k : Nat) (A0 : Option Addr) (c0 : Nat) (l0 : List Int) (r1 : ByteArray) (r2 : ByteArray) (w : World) (hr0 : Kd.C (Kd.int .u8) w A0 l0.length l0) (hc0 : l0.length ≤ c0) (h : spec_DrawIsSeed.f k l0 = some (r1, r2)) :
  Calls Tryz.prog 22 #[.slice A0 l0.length c0] w fun e w' => e = .returned (.tuple #[.string r1, .string r2]) ∧ Below w.heap.size w w' := by
 have HR0 := Aside0.mk hr0
 have HC0 := Aside0.mk hc0
 clear hr0 hc0
 have HB := Aside0.mk (Below.refl w.heap.size w)
 have H : ((spec_l09With.f k l0).bind fun bt609 => (some (bt609.1, bt609.2))) = some (r1, r2) := h
 clear h
 obtain ⟨⟨t609, t610⟩, A2, H⟩ := qN H
 try dsimp only at H
 simp only [Option.some.injEq, Prod.mk.injEq] at H
 obtain ⟨rfl, rfl⟩ := H
 go_enter Tryz.func22, Tryz.ntmps22
 go_wp2_with (first | ((with_reducible refine gate_callee (f := 55) rfl ?_); refine goesL_ (some 8) rfl rfl Tryz.func55 (by kernel_rfl) rfl #[.slice A0 l0.length c0] rfl qV ?_; (with_reducible refine (spec_l09With.calls k _ _ l0 t609 t610 _ ?side1 ?side2 A2.out).mono ?_); (case side1 => exact qC HR0.out); (case side2 => exact HC0.out); rintro e w3 ⟨rfl, hb⟩; refine ⟨_, rfl, ?_⟩; replace HB := Aside0.mk (below_step (qB HB.out) hb)))
 go_ret2
 exact ⟨qE, qB HB.out⟩

end Go.Proofs.YtcfphjjdbccnoaaGreat.PF

namespace Go.Proofs.YtcfphjjdbccnoaaGreat.PF
open Go.RowKit Go.Proofs.YtcfphjjdbccnoaaGreatW.PrintWords Go.Proofs.YtcfphjjdbccnoaaGreatW.PrintLast Go.Proofs.YtcfphjjdbccnoaaGreatW.PrintMore
attribute [local go_sem] max2_int min2_int max_two min_two max_three min_three max_four min_four   -- for this text's walks alone
set_option linter.unusedVariables false
set_option linter.unusedSimpArgs false

/-! ### spec_l09Code: function 56 -/
mutual
def spec_l09Code.l0 : Nat → List ByteArray → Int → Option (Int)
 | 0, _, _ => none
 | k + 1, x1, x5 => if x5 < (x1.length : Int) then (if 0 ≤ x5 then ((spec_l01Is.f k (rdOf ByteArray.empty x1 x5)).bind fun t613 => (if t613 = true then (spec_l09Code.l0 k x1 (wrap64 (x5 + 1))) else (some 1))) else (none)) else (spec_l09Code.l1 k x1 0)
def spec_l09Code.l1 : Nat → List ByteArray → Int → Option (Int)
 | 0, _, _ => none
 | k + 1, x1, x6 => if x6 < (x1.length : Int) then (if 0 ≤ x6 then (if (rdOf ByteArray.empty x1 x6).toList = ([] : List UInt8) then (some 2) else (spec_l09Code.l1 k x1 (wrap64 (x6 + 1)))) else (none)) else (some 0)
end
def spec_l09Code.f (k : Nat) (a0 : ByteArray) (l1 : List ByteArray) : Option (Int) := (spec_l01Is.f k a0).bind fun t611 => (if t611 = true then (spec_l09Code.l0 k l1 0) else (some 1))
theorem spec_l09Code.mono_l : ∀ k, (∀ y0 y1, LeO (spec_l09Code.l0 k y0 y1) (spec_l09Code.l0 (k + 1) y0 y1)) ∧ (∀ y0 y1, LeO (spec_l09Code.l1 k y0 y1) (spec_l09Code.l1 (k + 1) y0 y1))
 | 0 => ⟨fun _ _ r h => by simp [spec_l09Code.l0] at h, fun _ _ r h => by simp [spec_l09Code.l1] at h⟩
 | k + 1 => by
  obtain ⟨ih0, ih1⟩ := spec_l09Code.mono_l k
  refine ⟨?_, ?_⟩
  all_goals intros
  all_goals first | unfold spec_l09Code.l0 | unfold spec_l09Code.l1
  all_goals with_reducible repeat' first
  | exact ih0 _ _
  | exact ih1 _ _
  | exact spec_l01Is.mono _ _
  | exact LeO.refl _
  | exact LeO.none _
  | refine LeO.ite ?_ ?_
  | refine LeO.bind ?_ (fun _ => ?_)
theorem spec_l09Code.mono : ∀ a0 a1 k, LeO (spec_l09Code.f k a0 a1) (spec_l09Code.f (k + 1) a0 a1) := by
 intro a0 a1 k
 obtain ⟨ih0, ih1⟩ := spec_l09Code.mono_l k
 unfold spec_l09Code.f
 with_reducible repeat' first
   | exact ih0 _ _
   | exact ih1 _ _
   | exact spec_l01Is.mono _ _
   | exact LeO.refl _
   | exact LeO.none _
   | refine LeO.ite ?_ ?_
   | refine LeO.bind ?_ (fun _ => ?_)
set_option maxHeartbeats 8000000 in
set_option maxRecDepth 100000 in
theorem spec_l09Code.calls (k : Nat) (a0 : ByteArray) (A1 : Option Addr) (c1 : Nat) (l1 : List ByteArray) (r : Int) (w : World) (hr1 : Kd.C Kd.string w A1 l1.length l1) (hc1 : l1.length ≤ c1) (h : spec_l09Code.f k a0 l1 = some r) :
  Calls Tryz.prog 56 #[.string a0, .slice A1 l1.length c1] w fun e w' => e = .returned (.int .i64 r) ∧ Drawn0 w w' := by
 have HR1 := Aside0.mk hr1
 have HC1 := Aside0.mk hc1
 clear hr1 hc1
 have H : ((spec_l01Is.f k a0).bind fun t611 => (if t611 = true then (spec_l09Code.l0 k l1 0) else (some 1))) = some r := h
 clear h
 obtain ⟨t611, A3, H⟩ := qN H
 try dsimp only at H
 by_cases c4 : t611 = true
 rotate_left
 ·
  replace c4 := Bool.eq_false_iff.mpr c4
  subst c4
  rw [if_neg (show ¬ (false = true) by decide)] at H
  obtain rfl := Option.some.inj H
  go_enter Tryz.func56, Tryz.ntmps56
  go_wp2_with (first | ((with_reducible refine gate_callee (f := 33) rfl ?_); refine goesL_ (some 8) rfl rfl Tryz.func33 (by kernel_rfl) rfl #[.string a0] rfl qV ?_; (with_reducible refine (spec_l01Is.calls k a0 false _ A3.out).mono ?_); rintro e w' ⟨rfl, ⟨nd, rfl⟩⟩; refine ⟨_, rfl, ?_⟩))
  go_ret
  exact ⟨by first | rfl | (simp; done) | (simp [*]; done) | (simp; rw [Bool.eq_iff_iff]; simp; done), by repeat (first | exact Drawn0.refl _ | apply Drawn0.step)⟩

 subst c4
 rw [if_pos rfl] at H
 have H' := Aside0.mk H
 clear H
 go_enter Tryz.func56, Tryz.ntmps56
 go_wp2_with (first | ((with_reducible refine gate_callee (f := 33) rfl ?_); refine goesL_ (some 8) rfl rfl Tryz.func33 (by kernel_rfl) rfl #[.string a0] rfl qV ?_; (with_reducible refine (spec_l01Is.calls k a0 true _ A3.out).mono ?_); rintro e w' ⟨rfl, ⟨nd, rfl⟩⟩; refine ⟨_, rfl, ?_⟩))
 go_loopg [5] k (fun kq v5 w' => ∃ (x5_1 : Int), v5 = .int .i64 x5_1 ∧ Aside0 (spec_l09Code.l0 kq l1 x5_1 = some r) ∧ Aside0 (kq ≤ k) ∧ Drawn0 w w')
 case atStart => exact ⟨(0), qF, H', ⟨Nat.le_refl _⟩, by repeat (first | exact Drawn0.refl _ | apply Drawn0.step)⟩
 case round =>
  clear H'
  obtain ⟨x5_1, rfl, HA, HK1, ⟨m1, rfl⟩⟩ := hrel
  cases gk with
  | zero => exact absurd HA.out (by simp [spec_l09Code.l0])
  | succ k1 =>
   have H := HA.out
   clear HA
   simp only [spec_l09Code.l0] at H
   by_cases c5 : x5_1 < (l1.length : Int)
   ·
    rw [if_pos c5] at H
    have c5b0 : decide (x5_1 < (l1.length : Int)) = true := decide_eq_true c5
    clear c5
    by_cases c6 : 0 ≤ x5_1
    rotate_left
    ·
     rw [if_neg c6] at H
     exact absurd H (by simp)
    rw [if_pos c6] at H
    have c6b0 : decide (0 ≤ x5_1) = true := decide_eq_true c6
    clear c6
    obtain ⟨t613, A7, H⟩ := qN H
    try dsimp only at H
    by_cases c8 : t613 = true
    ·
     subst c8
     rw [if_pos rfl] at H
     have H' := Aside0.mk H
     clear H
     have p612 : 0 ≤ (x5_1 : Int) := of_decide_eq_true (by first | (with_reducible assumption) | assumption)
     have q612 : x5_1 < (l1.length : Int) := of_decide_eq_true (by first | (with_reducible assumption) | assumption)
     obtain ⟨ad612, e612, hx612_0⟩ := Kd.at_string HR1.out x5_1 p612 q612
     cases e612
     replace p612 := eq_true p612
     replace q612 := eq_true q612
     go_wp2_with (first | ((with_reducible refine gate_callee (f := 33) rfl ?_); refine goesL_ (some 20) rfl rfl Tryz.func33 (by kernel_rfl) rfl #[.string (rdOf ByteArray.empty l1 x5_1)] rfl qV ?_; (with_reducible refine (spec_l01Is.calls k1 (rdOf ByteArray.empty l1 x5_1) true _ A7.out).mono ?_); rintro e w' ⟨rfl, ⟨nd, rfl⟩⟩; refine ⟨_, rfl, ?_⟩))
     go_roundg k1
     case measure => have := HK1.out; omega
     case rel => exact ⟨(wrap64 (x5_1 + 1)), qF, H', ⟨by have := HK1.out; omega⟩, by repeat (first | exact Drawn0.refl _ | apply Drawn0.step)⟩
    replace c8 := Bool.eq_false_iff.mpr c8
    subst c8
    rw [if_neg (show ¬ (false = true) by decide)] at H
    obtain rfl := Option.some.inj H
    have p612 : 0 ≤ (x5_1 : Int) := of_decide_eq_true (by first | (with_reducible assumption) | assumption)
    have q612 : x5_1 < (l1.length : Int) := of_decide_eq_true (by first | (with_reducible assumption) | assumption)
    obtain ⟨ad612, e612, hx612_0⟩ := Kd.at_string HR1.out x5_1 p612 q612
    cases e612
    replace p612 := eq_true p612
    replace q612 := eq_true q612
    go_wp2_with (first | ((with_reducible refine gate_callee (f := 33) rfl ?_); refine goesL_ (some 20) rfl rfl Tryz.func33 (by kernel_rfl) rfl #[.string (rdOf ByteArray.empty l1 x5_1)] rfl qV ?_; (with_reducible refine (spec_l01Is.calls k1 (rdOf ByteArray.empty l1 x5_1) false _ A7.out).mono ?_); rintro e w' ⟨rfl, ⟨nd, rfl⟩⟩; refine ⟨_, rfl, ?_⟩))
    go_ret
    exact ⟨by first | rfl | (simp; done) | (simp [*]; done) | (simp; rw [Bool.eq_iff_iff]; simp; done), by repeat (first | exact Drawn0.refl _ | apply Drawn0.step)⟩
   rw [if_neg c5] at H
   have c5b0 : decide (x5_1 < (l1.length : Int)) = false := decide_eq_false c5
   clear c5
   have H' := Aside0.mk H
   clear H
   go_wp2
   go_loopg [6] k1 (fun kq v6 w' => ∃ (x6_2 : Int), v6 = .int .i64 x6_2 ∧ Aside0 (spec_l09Code.l1 kq l1 x6_2 = some r) ∧ Aside0 (kq ≤ k1) ∧ Drawn0 w w')
   case atStart => exact ⟨(0), qF, H', ⟨Nat.le_refl _⟩, by repeat (first | exact Drawn0.refl _ | apply Drawn0.step)⟩
   case round =>
    clear H'
    obtain ⟨x6_2, rfl, HA, HK2, ⟨m2, rfl⟩⟩ := hrel
    cases gk with
    | zero => exact absurd HA.out (by simp [spec_l09Code.l1])
    | succ k2 =>
     have H := HA.out
     clear HA
     simp only [spec_l09Code.l1] at H
     by_cases c9 : x6_2 < (l1.length : Int)
     rotate_left
     ·
      rw [if_neg c9] at H
      have c9b0 : decide (x6_2 < (l1.length : Int)) = false := decide_eq_false c9
      clear c9
      obtain rfl := Option.some.inj H
      go_wp2
      go_ret
      exact ⟨by first | rfl | (simp; done) | (simp [*]; done) | (simp; rw [Bool.eq_iff_iff]; simp; done), by repeat (first | exact Drawn0.refl _ | apply Drawn0.step)⟩
     rw [if_pos c9] at H
     have c9b0 : decide (x6_2 < (l1.length : Int)) = true := decide_eq_true c9
     clear c9
     by_cases c10 : 0 ≤ x6_2
     rotate_left
     ·
      rw [if_neg c10] at H
      exact absurd H (by simp)
     rw [if_pos c10] at H
     have c10b0 : decide (0 ≤ x6_2) = true := decide_eq_true c10
     clear c10
     by_cases c11 : (rdOf ByteArray.empty l1 x6_2).toList = ([] : List UInt8)
     ·
      rw [if_pos c11] at H
      obtain ⟨c11b0, c11b1⟩ := zT c11
      clear c11
      obtain rfl := Option.some.inj H
      have p614 : 0 ≤ (x6_2 : Int) := of_decide_eq_true (by first | (with_reducible assumption) | assumption)
      have q614 : x6_2 < (l1.length : Int) := of_decide_eq_true (by first | (with_reducible assumption) | assumption)
      obtain ⟨ad614, e614, hx614_0⟩ := Kd.at_string HR1.out x6_2 p614 q614
      cases e614
      replace p614 := eq_true p614
      replace q614 := eq_true q614
      go_wp2
      go_ret
      exact ⟨by first | rfl | (simp; done) | (simp [*]; done) | (simp; rw [Bool.eq_iff_iff]; simp; done), by repeat (first | exact Drawn0.refl _ | apply Drawn0.step)⟩
     rw [if_neg c11] at H
     obtain ⟨c11b0, c11b1⟩ := zF c11
     have H' := Aside0.mk H
     clear H
     have p614 : 0 ≤ (x6_2 : Int) := of_decide_eq_true (by first | (with_reducible assumption) | assumption)
     have q614 : x6_2 < (l1.length : Int) := of_decide_eq_true (by first | (with_reducible assumption) | assumption)
     obtain ⟨ad614, e614, hx614_0⟩ := Kd.at_string HR1.out x6_2 p614 q614
     cases e614
     replace p614 := eq_true p614
     replace q614 := eq_true q614
     go_wp2
     go_roundg k2
     case measure => have := HK1.out; have := HK2.out; omega
     case rel => exact ⟨(wrap64 (x6_2 + 1)), qF, H', ⟨by have := HK1.out; have := HK2.out; omega⟩, by repeat (first | exact Drawn0.refl _ | apply Drawn0.step)⟩
end Go.Proofs.YtcfphjjdbccnoaaGreat.PF

namespace Go.Proofs.YtcfphjjdbccnoaaGreat.PF
open Go.RowKit Go.Proofs.YtcfphjjdbccnoaaGreatW.PrintWords Go.Proofs.YtcfphjjdbccnoaaGreatW.PrintLast Go.Proofs.YtcfphjjdbccnoaaGreatW.PrintMore
attribute [local go_sem] max2_int min2_int max_two min_two max_three min_three max_four min_four   -- for this text's walks alone
set_option linter.unusedVariables false
set_option linter.unusedSimpArgs false

/-! ### spec_IsSeed: function 23 -/
def spec_IsSeed.j0 : Nat → ByteArray → ByteArray → Int → Bool → Option (Bool × Int)
 | 0, _, _, _, _ => none
 | k + 1, x0, x1, x6, x19 => if x19 = true then (if 2 = 0 then ((spec_l09Seed.f k x0 x1).bind fun t619 => (some (t619, 0))) else (some (false, 2))) else (if x6 = 0 then ((spec_l09Seed.f k x0 x1).bind fun t620 => (some (t620, 0))) else (some (false, x6)))
def spec_IsSeed.f (k : Nat) (a0 : ByteArray) (a1 : ByteArray) : Option (Bool × Int) := (spec_l09Code.f k a0 (([a1] : List ByteArray))).bind fun t618 => (if t618 = 0 then (spec_IsSeed.j0 k a0 a1 t618 (decide ((a1.size : Int) > (a0.size : Int)))) else (spec_IsSeed.j0 k a0 a1 t618 false))
theorem spec_IsSeed.mono_l : ∀ k, (∀ y0 y1 y2 y3, LeO (spec_IsSeed.j0 k y0 y1 y2 y3) (spec_IsSeed.j0 (k + 1) y0 y1 y2 y3))
 | 0 => fun _ _ _ _ r h => by simp [spec_IsSeed.j0] at h
 | k + 1 => by
  have ih0 := spec_IsSeed.mono_l k
  ·
   intro y0 y1 y2 y3
   unfold spec_IsSeed.j0
   with_reducible repeat' first
   | exact ih0 _ _ _ _
   | exact spec_l09Code.mono _ _ _
   | exact spec_l09Seed.mono _ _ _
   | exact LeO.refl _
   | exact LeO.none _
   | refine LeO.ite ?_ ?_
   | refine LeO.bind ?_ (fun _ => ?_)
theorem spec_IsSeed.mono : ∀ a0 a1 k, LeO (spec_IsSeed.f k a0 a1) (spec_IsSeed.f (k + 1) a0 a1) := by
 intro a0 a1 k
 have ih0 := spec_IsSeed.mono_l k
 unfold spec_IsSeed.f
 with_reducible repeat' first
   | exact ih0 _ _ _ _
   | exact spec_l09Code.mono _ _ _
   | exact spec_l09Seed.mono _ _ _
   | exact LeO.refl _
   | exact LeO.none _
   | refine LeO.ite ?_ ?_
   | refine LeO.bind ?_ (fun _ => ?_)
set_option maxHeartbeats 8000000 in
set_option maxRecDepth 100000 in
theorem spec_IsSeed.calls (k : Nat) (a0 : ByteArray) (a1 : ByteArray) (r1 : Bool) (r2 : Int) (w : World) (h : spec_IsSeed.f k a0 a1 = some (r1, r2)) :
  Calls Tryz.prog 23 #[.string a0, .string a1] w fun e w' => e = .returned (.tuple #[.bool r1, .int .i64 r2]) ∧ Below w.heap.size w w' := by
 have HB := Aside0.mk (Below.refl w.heap.size w)
 have H : ((spec_l09Code.f k a0 (([a1] : List ByteArray))).bind fun t618 => (if t618 = 0 then (spec_IsSeed.j0 k a0 a1 t618 (decide ((a1.size : Int) > (a0.size : Int)))) else (spec_IsSeed.j0 k a0 a1 t618 false))) = some (r1, r2) := h
 clear h
 obtain ⟨y615, hy615⟩ : ∃ y_ : List ByteArray, y_ = (([a1] : List ByteArray)) := ⟨_, rfl⟩
 replace H : ((spec_l09Code.f k a0 y615).bind fun t618 => (if t618 = 0 then (spec_IsSeed.j0 k a0 a1 t618 (decide ((a1.size : Int) > (a0.size : Int)))) else (spec_IsSeed.j0 k a0 a1 t618 false))) = some (r1, r2) := by first | (rw [hy615]; with_reducible exact H) | (have H2_ := (Option.bind_some _ _).symm.trans H; rw [hy615]; with_reducible exact H2_) | (have H2_ := (Option.bind_some _ _).symm.trans H; with_reducible exact H2_) | with_reducible exact H | (rw [hy615]; exact H) | exact H
 have Ny615 := Aside0.mk hy615
 clear hy615
 obtain ⟨t618, A3, H⟩ := qN H
 try dsimp only at H
 have HC4 := Aside0.mk H
 clear H
 go_enter Tryz.func23, Tryz.ntmps23
 go_upto_region 2 with (first | ((with_reducible refine gate_dst (N := 9) rfl ?_); (try (refine gate_guard (by rfl) ?_; dsimp only)); refine Kd.R_lit Kd.string _ 9 ?hg (N := 9) ?hd (xs := ([a1] : List ByteArray)) (inner := [.string a1]) (ok := fun _ => True) (okp := fun _ => True) ?hr ?hp (fun _ hk => hk) trivial (Below.refl _ _) (Nat.le_refl _) (by simp) ?_; (case hd => rfl); (case hg => rfl); (case hr => first | (go_simp; done) | (go_simp; rfl)); (case hp => exact (Reps.one (show Kd.M Kd.string _ _ _ a1 [.string a1] from rfl) (Reps.none _ _))); intro v616 w5 ho6 hb hg_ hnew_; clear hg_ hnew_; (first | rw [← Ny615.out] at ho6 | (simp only [Int.reduceToNat] at ho6; rw [← Ny615.out] at ho6)); have HO617 := Aside0.mk (Kd.R_lower ho6 (below_size (qB HB.out))); replace HB := Aside0.mk (below_step (qB HB.out) hb); clear hb ho6; obtain ⟨Ao7, co7, eo7⟩ := Kd.R_slice HO617.out; subst eo7) | ((with_reducible refine gate_callee (f := 56) rfl ?_); refine goesL_ (some 10) rfl rfl Tryz.func56 (by kernel_rfl) rfl #[.string a0, .slice Ao7 y615.length co7] rfl qV ?_; (with_reducible refine (spec_l09Code.calls k a0 _ _ y615 t618 _ ?side1 ?side2 A3.out).mono ?_); (case side1 => exact qC (Kd.R_reads' HO617.out).2.2); (case side2 => exact (Kd.R_reads' HO617.out).2.1); rintro e w' ⟨rfl, ⟨nd, rfl⟩⟩; refine ⟨_, rfl, ?_⟩))
 (try simp only [Act.put, List.setIfInBounds_toArray, List.set_cons_zero, List.set_cons_succ])
 go_cut [19] (fun v19 wc => ∃ (kq : Nat) (x19_3 : Bool), v19 = .bool x19_3 ∧ Aside0 (spec_IsSeed.j0 kq a0 a1 t618 x19_3 = some (r1, r2)) ∧ Aside0 (kq ≤ k) ∧ Aside0 (Below w.heap.size w wc))
 case first =>
  have H := HC4.out
  clear HC4
  by_cases c8 : t618 = 0
  ·
   rw [if_pos c8] at H
   obtain ⟨c8b0, c8b1⟩ := zT c8
   clear c8
   (first | rw [c8b0] | (simp only [i64_w, i32_w]; rw [c8b0]) | skip)
   have H' := Aside0.mk H
   clear H
   go_wp2
   go_meet
   case rel => exact ⟨_, (decide ((a1.size : Int) > (a0.size : Int))), qF, H', ⟨by first | omega | exact Nat.le_refl _⟩, ⟨qB HB.out⟩⟩
  rw [if_neg c8] at H
  obtain ⟨c8b0, c8b1⟩ := zF c8
  (first | rw [c8b0] | (simp only [i64_w, i32_w]; rw [c8b0]) | skip)
  have H' := Aside0.mk H
  clear H
  go_wp2
  go_meet
  case rel => exact ⟨_, (false), qF, H', ⟨by first | omega | exact Nat.le_refl _⟩, ⟨qB HB.out⟩⟩
 case rest =>
  clear HC4
  obtain ⟨kq, x19_3, rfl, HA, HJ3, HB⟩ := hcut
  cases kq with
  | zero => exact absurd HA.out (by simp [spec_IsSeed.j0])
  | succ kj3 =>
   have H := HA.out
   clear HA
   simp only [spec_IsSeed.j0] at H
   by_cases c9 : x19_3 = true
   ·
    subst c9
    rw [if_pos rfl] at H
    by_cases c10 : 2 = 0
    ·
     exact absurd c10 (by decide)
    rw [if_neg c10] at H
    obtain ⟨c10b0, c10b1⟩ := zF c10
    simp only [Option.some.injEq, Prod.mk.injEq] at H
    obtain ⟨rfl, rfl⟩ := H
    go_wp2
    go_ret2
    exact ⟨qE, qB HB.out⟩
   replace c9 := Bool.eq_false_iff.mpr c9
   subst c9
   rw [if_neg (show ¬ (false = true) by decide)] at H
   by_cases c13 : t618 = 0
   rotate_left
   ·
    rw [if_neg c13] at H
    obtain ⟨c13b0, c13b1⟩ := zF c13
    simp only [Option.some.injEq, Prod.mk.injEq] at H
    obtain ⟨rfl, rfl⟩ := H
    go_wp2
    go_ret2
    exact ⟨qE, qB HB.out⟩

   rw [if_pos c13] at H
   obtain ⟨c13b0, c13b1⟩ := zT c13
   clear c13
   obtain ⟨t620, A14, H⟩ := qN H
   try dsimp only at H
   simp only [Option.some.injEq, Prod.mk.injEq] at H
   obtain ⟨rfl, rfl⟩ := H
   go_wp2_with (first | ((with_reducible refine gate_callee (f := 57) rfl ?_); refine goesL_ (some 25) rfl rfl Tryz.func57 (by kernel_rfl) rfl #[.string a0, .string a1] rfl qV ?_; (with_reducible refine (spec_l09Seed.calls kj3 a0 a1 t620 _ A14.out).mono ?_); rintro e w15 ⟨rfl, hb⟩; refine ⟨_, rfl, ?_⟩; replace HB := Aside0.mk (below_step (qB HB.out) hb)))
   go_ret2
   exact ⟨qE, qB HB.out⟩
end Go.Proofs.YtcfphjjdbccnoaaGreat.PF

namespace Go.Proofs.YtcfphjjdbccnoaaGreat.PF
open Go.RowKit Go.Proofs.YtcfphjjdbccnoaaGreatW.PrintWords Go.Proofs.YtcfphjjdbccnoaaGreatW.PrintLast Go.Proofs.YtcfphjjdbccnoaaGreatW.PrintMore
attribute [local go_sem] max2_int min2_int max_two min_two max_three min_three max_four min_four   -- for this text's walks alone
set_option linter.unusedVariables false
set_option linter.unusedSimpArgs false

/-! ### spec_DrawSeedsOf: function 24 -/
def spec_DrawSeedsOf.f (k : Nat) (l0 : List Int) : Option (ByteArray × Int) := (spec_l09One.f k l0).bind fun t621 => ((spec_l01From.f k l0).bind fun bt622 => ((spec_l01Pick.f bt622.1 bt622.2.1 bt622.2.2 (([1, 2, 3, 3, 4, 5, 6, 7, 60, 0, 61] : List Int))).bind fun bt629 => (some (t621, bt629.1))))
theorem spec_DrawSeedsOf.mono : ∀ a0 k, LeO (spec_DrawSeedsOf.f k a0) (spec_DrawSeedsOf.f (k + 1) a0) := by
 intro a0 k
 unfold spec_DrawSeedsOf.f
 with_reducible repeat' first
   | exact spec_l01From.mono _ _
   | exact spec_l09One.mono _ _
   | exact LeO.refl _
   | exact LeO.none _
   | refine LeO.ite ?_ ?_
   | refine LeO.bind ?_ (fun _ => ?_)
set_option maxHeartbeats 8000000 in
set_option maxRecDepth 100000 in
theorem spec_DrawSeedsOf.calls (k : Nat) (A0 : Option Addr) (c0 : Nat) (l0 : List Int) (r1 : ByteArray) (r2 : Int) (w : World) (hr0 : Kd.C (Kd.int .u8) w A0 l0.length l0) (hc0 : l0.length ≤ c0) (h : spec_DrawSeedsOf.f k l0 = some (r1, r2)) :
  Calls Tryz.prog 24 #[.slice A0 l0.length c0] w fun e w' => e = .returned (.tuple #[.string r1, .int .i64 r2]) ∧ Below w.heap.size w w' := by
 have HR0 := Aside0.mk hr0
 have HC0 := Aside0.mk hc0
 clear hr0 hc0
 have HB := Aside0.mk (Below.refl w.heap.size w)
 have H : ((spec_l09One.f k l0).bind fun t621 => ((spec_l01From.f k l0).bind fun bt622 => ((spec_l01Pick.f bt622.1 bt622.2.1 bt622.2.2 (([1, 2, 3, 3, 4, 5, 6, 7, 60, 0, 61] : List Int))).bind fun bt629 => (some (t621, bt629.1))))) = some (r1, r2) := h
 clear h
 obtain ⟨t621, A2, H⟩ := qN H
 try dsimp only at H
 obtain ⟨⟨t622, t623, t624⟩, A3, H⟩ := qN H
 try dsimp only at H
 obtain ⟨y626, hy626⟩ : ∃ y_ : List Int, y_ = (([1, 2, 3, 3, 4, 5, 6, 7, 60, 0, 61] : List Int)) := ⟨_, rfl⟩
 replace H : ((spec_l01Pick.f t622 t623 t624 y626).bind fun bt629 => (some (t621, bt629.1))) = some (r1, r2) := by first | (rw [hy626]; with_reducible exact H) | (have H2_ := (Option.bind_some _ _).symm.trans H; rw [hy626]; with_reducible exact H2_) | (have H2_ := (Option.bind_some _ _).symm.trans H; with_reducible exact H2_) | with_reducible exact H | (rw [hy626]; exact H) | exact H
 have Ny626 := Aside0.mk hy626
 clear hy626
 obtain ⟨⟨t629, t630, t631⟩, A4, H⟩ := qN H
 try dsimp only at H
 simp only [Option.some.injEq, Prod.mk.injEq] at H
 obtain ⟨rfl, rfl⟩ := H
 go_enter Tryz.func24, Tryz.ntmps24
 go_wp2_with (first | ((with_reducible refine gate_callee (f := 29) rfl ?_); refine goesL_ (some 5) rfl rfl Tryz.func29 (by kernel_rfl) rfl #[.slice A0 l0.length c0] rfl qV ?_; (with_reducible refine (spec_l09One.calls k _ _ l0 t621 _ ?side1 ?side2 A2.out).mono ?_); (case side1 => exact qC HR0.out); (case side2 => exact HC0.out); rintro e w5 ⟨rfl, hb⟩; refine ⟨_, rfl, ?_⟩; replace HB := Aside0.mk (below_step (qB HB.out) hb)) | ((with_reducible refine gate_callee (f := 48) rfl ?_); refine goesL_ (some 7) rfl rfl Tryz.func48 (by kernel_rfl) rfl #[.slice A0 l0.length c0] rfl qV ?_; (with_reducible refine (spec_l01From.calls k _ _ l0 t622 t623 t624 w _ ?side1 ?side2 ?side3 A3.out).mono ?_); (case side1 => exact qB HB.out); (case side2 => exact HR0.out); (case side3 => exact HC0.out); rintro e w6 ⟨g625, rfl, hi, hb, hb2⟩; refine ⟨_, rfl, ?_⟩; replace HB := Aside0.mk (hb); have HI625 := Aside0.mk (hi)) | ((with_reducible refine gate_dst (N := 8) rfl ?_); refine Kd.R_lit (Kd.int .i64) _ 2 ?hg (N := 8) ?hd (xs := ([1, 2, 3, 3, 4, 5, 6, 7, 60, 0, 61] : List Int)) (inner := [.int .i64 1, .int .i64 2, .int .i64 3, .int .i64 3, .int .i64 4, .int .i64 5, .int .i64 6, .int .i64 7, .int .i64 60, .int .i64 0, .int .i64 61]) (ok := fun _ => True) (okp := fun _ => True) ?hr ?hp (fun _ hk => hk) trivial (Below.refl _ _) (Nat.le_refl _) (by simp) ?_; (case hd => rfl); (case hg => rfl); (case hr => first | (go_simp; done) | (go_simp; rfl)); (case hp => exact (Reps.one (show Kd.M (Kd.int .i64) _ _ _ 1 [.int .i64 1] from rfl) (Reps.one (show Kd.M (Kd.int .i64) _ _ _ 2 [.int .i64 2] from rfl) (Reps.one (show Kd.M (Kd.int .i64) _ _ _ 3 [.int .i64 3] from rfl) (Reps.one (show Kd.M (Kd.int .i64) _ _ _ 3 [.int .i64 3] from rfl) (Reps.one (show Kd.M (Kd.int .i64) _ _ _ 4 [.int .i64 4] from rfl) (Reps.one (show Kd.M (Kd.int .i64) _ _ _ 5 [.int .i64 5] from rfl) (Reps.one (show Kd.M (Kd.int .i64) _ _ _ 6 [.int .i64 6] from rfl) (Reps.one (show Kd.M (Kd.int .i64) _ _ _ 7 [.int .i64 7] from rfl) (Reps.one (show Kd.M (Kd.int .i64) _ _ _ 60 [.int .i64 60] from rfl) (Reps.one (show Kd.M (Kd.int .i64) _ _ _ 0 [.int .i64 0] from rfl) (Reps.one (show Kd.M (Kd.int .i64) _ _ _ 61 [.int .i64 61] from rfl) (Reps.none _ _))))))))))))); intro v627 w7 ho8 hb hg_ hnew_; clear hg_ hnew_; (first | rw [← Ny626.out] at ho8 | (simp only [Int.reduceToNat] at ho8; rw [← Ny626.out] at ho8)); have HO628 := Aside0.mk (Kd.R_lower ho8 (below_size (qS HB.out))); replace HI625 := Aside0.mk (IsS80.below (qI HI625.out) hb); replace HB := Aside0.mk (below_step (qS HB.out) hb); clear hb ho8; obtain ⟨Ao9, co9, eo9⟩ := Kd.R_slice HO628.out; subst eo9) | ((with_reducible refine gate_callee (f := 47) rfl ?_); refine goesL_ (some 9) rfl rfl Tryz.func47 (by kernel_rfl) rfl #[.pointer (some ⟨g625, 0, none⟩), .slice Ao9 y626.length co9] rfl qV ?_; (with_reducible refine (spec_l01Pick.calls g625 t622 t623 t624 _ _ y626 t629 t630 t631 w _ ?side1 ?side2 ?side3 ?side4 ?side5 A4.out).mono ?_); (case side1 => exact qI HI625.out); (case side2 => exact qS HB.out); (case side3 => exact qC (Kd.R_reads' HO628.out).2.2); (case side4 => exact (Kd.R_reads' HO628.out).2.1); (case side5 => exact far_slice (IsS80.own_ne HI625.out HO628.out (by decide))); rintro e w10 ⟨rfl, hi, hb, hk⟩; refine ⟨_, rfl, ?_⟩; replace HO628 := Aside0.mk (Kd.R_mono (Kd.R_keep (IsS80.apart (show IsS80 w _ g625 t622 t623 t624 from qI HI625.out) (qR HO628.out) (by decide)) hk (fun _ h => h.2)) (fun _ h => h.1)); replace HB := Aside0.mk (hb); replace HI625 := Aside0.mk (hi)))
 go_ret2
 exact ⟨qE, qS HB.out⟩

end Go.Proofs.YtcfphjjdbccnoaaGreat.PF

namespace Go.Proofs.YtcfphjjdbccnoaaGreat.PF
open Go.RowKit Go.Proofs.YtcfphjjdbccnoaaGreatW.PrintWords Go.Proofs.YtcfphjjdbccnoaaGreatW.PrintLast Go.Proofs.YtcfphjjdbccnoaaGreatW.PrintMore
attribute [local go_sem] max2_int min2_int max_two min_two max_three min_three max_four min_four   -- for this text's walks alone
set_option linter.unusedVariables false
set_option linter.unusedSimpArgs false

/-! ### spec_SeedsOf: function 25 -/
def spec_SeedsOf.f (k : Nat) (a0 : ByteArray) (a1 : Int) : Option (List ByteArray × Int) := (spec_l09Length.f k a0 a1).bind fun t632 => (if t632 = 0 then ((spec_l09Seeds.f k a0 a1).bind fun t633 => (some (t633, 0))) else (some (([] : List ByteArray), t632)))
theorem spec_SeedsOf.mono : ∀ a0 a1 k, LeO (spec_SeedsOf.f k a0 a1) (spec_SeedsOf.f (k + 1) a0 a1) := by
 intro a0 a1 k
 unfold spec_SeedsOf.f
 with_reducible repeat' first
   | exact spec_l09Length.mono _ _ _
   | exact spec_l09Seeds.mono _ _ _
   | exact LeO.refl _
   | exact LeO.none _
   | refine LeO.ite ?_ ?_
   | refine LeO.bind ?_ (fun _ => ?_)
set_option maxHeartbeats 8000000 in
set_option maxRecDepth 100000 in
theorem spec_SeedsOf.calls (k : Nat) (a0 : ByteArray) (a1 : Int) (r1 : List ByteArray) (r2 : Int) (w : World) (h : spec_SeedsOf.f k a0 a1 = some (r1, r2)) :
  Calls Tryz.prog 25 #[.string a0, .int .i64 a1] w fun e w' => ∃ v0_ : Value, e = .returned (.tuple #[v0_, .int .i64 r2]) ∧ Kd.R Kd.string 9 w' w.heap.size (fun _ => True) v0_ r1 ∧ Below w.heap.size w w' := by
 have HB := Aside0.mk (Below.refl w.heap.size w)
 have H : ((spec_l09Length.f k a0 a1).bind fun t632 => (if t632 = 0 then ((spec_l09Seeds.f k a0 a1).bind fun t633 => (some (t633, 0))) else (some (([] : List ByteArray), t632)))) = some (r1, r2) := h
 clear h
 obtain ⟨t632, A3, H⟩ := qN H
 try dsimp only at H
 by_cases c4 : t632 = 0
 rotate_left
 ·
  rw [if_neg c4] at H
  obtain ⟨c4b0, c4b1⟩ := zF c4
  simp only [Option.some.injEq, Prod.mk.injEq] at H
  obtain ⟨rfl, rfl⟩ := H
  go_enter Tryz.func25, Tryz.ntmps25
  go_wp2_with (first | ((with_reducible refine gate_callee (f := 52) rfl ?_); refine goesL_ (some 9) rfl rfl Tryz.func52 (by kernel_rfl) rfl #[.string a0, .int .i64 a1] rfl qV ?_; (with_reducible refine (spec_l09Length.calls k a0 a1 t632 _ A3.out).mono ?_); rintro e w' ⟨rfl, ⟨nd, rfl⟩⟩; refine ⟨_, rfl, ?_⟩))
  go_ret2
  exact ⟨_, qE, by first | exact Kd.R_nil _ _ _ _ _ | exact Kd.N_nil _ _ _ _ _ | exact Kd.V_nil _ _ _ _ _ | exact Kd.Q_nil _ _ _ _ _ | exact Kd.S_nil _ _ _ _ _, qB HB.out⟩

 rw [if_pos c4] at H
 obtain ⟨c4b0, c4b1⟩ := zT c4
 clear c4
 obtain ⟨t633, A5, H⟩ := qN H
 try dsimp only at H
 simp only [Option.some.injEq, Prod.mk.injEq] at H
 obtain ⟨rfl, rfl⟩ := H
 go_enter Tryz.func25, Tryz.ntmps25
 go_wp2_with (first | ((with_reducible refine gate_callee (f := 52) rfl ?_); refine goesL_ (some 9) rfl rfl Tryz.func52 (by kernel_rfl) rfl #[.string a0, .int .i64 a1] rfl qV ?_; (with_reducible refine (spec_l09Length.calls k a0 a1 t632 _ A3.out).mono ?_); rintro e w' ⟨rfl, ⟨nd, rfl⟩⟩; refine ⟨_, rfl, ?_⟩) | ((with_reducible refine gate_callee (f := 34) rfl ?_); refine goesL_ (some 15) rfl rfl Tryz.func34 (by kernel_rfl) rfl #[.string a0, .int .i64 a1] rfl qV ?_; (with_reducible refine (spec_l09Seeds.calls k a0 a1 t633 _ A5.out).mono ?_); rintro e w6 ⟨v634, rfl, ho0, hb⟩; refine ⟨_, rfl, ?_⟩; have HO635 := Aside0.mk (Kd.R_lower ho0 (below_size (qB HB.out))); replace HB := Aside0.mk (below_step (qB HB.out) hb)))
 go_ret2
 exact ⟨_, qE, qR HO635.out, qB HB.out⟩
end Go.Proofs.YtcfphjjdbccnoaaGreat.PF

namespace Go.Proofs.YtcfphjjdbccnoaaGreat.PF
open Go.RowKit Go.Proofs.YtcfphjjdbccnoaaGreatW.PrintWords Go.Proofs.YtcfphjjdbccnoaaGreatW.PrintLast Go.Proofs.YtcfphjjdbccnoaaGreatW.PrintMore
attribute [local go_sem] max2_int min2_int max_two min_two max_three min_three max_four min_four   -- for this text's walks alone
set_option linter.unusedVariables false
set_option linter.unusedSimpArgs false

/-! ### spec_DrawCoveredByTwo: function 26 -/
def spec_DrawCoveredByTwo.j0 : Nat → ByteArray → ByteArray → ByteArray → Bool → List Int → Int → Int → Option (ByteArray × ByteArray × ByteArray)
 | 0, _, _, _, _, _, _, _ => none
 | k + 1, x6, x7, x8, x28, x640000, x640001, x640002 => if x28 = true then (if 0 ≤ (wrap64 ((x6.size : Int) - 2)) then (if (wrap64 ((x6.size : Int) - 2)) ≤ (x6.size : Int) then ((spec_l01Bad.f k x640000 x640001 x640002 x6).bind fun bt653 => ((spec_l01Bad.f k x640000 bt653.2.1 bt653.2.2 x7).bind fun bt656 => ((spec_l01Bad.f k x640000 bt656.2.1 bt656.2.2 (x6.extract ((wrap64 ((x6.size : Int) - 2)) : Int).toNat x6.size)).bind fun bt659 => (some (bt653.1, bt656.1, bt659.1))))) else (none)) else (none)) else ((spec_l01Bad.f k x640000 x640001 x640002 x6).bind fun bt662 => ((spec_l01Bad.f k x640000 bt662.2.1 bt662.2.2 x7).bind fun bt665 => ((spec_l01Bad.f k x640000 bt665.2.1 bt665.2.2 x8).bind fun bt668 => (some (bt662.1, bt665.1, bt668.1)))))
def spec_DrawCoveredByTwo.f (k : Nat) (l0 : List Int) : Option (ByteArray × ByteArray × ByteArray) := (spec_l01From.f k l0).bind fun bt636 => ((spec_l09Draw.f k bt636.1 bt636.2.1 bt636.2.2).bind fun bt640 => ((spec_l01Next.f bt636.1 bt640.2.2.1 bt640.2.2.2 3).bind fun bt644 => ((spec_l01DrawOf.f k bt636.1 bt644.2.1 bt644.2.2 (wrap64 (1 + bt644.1)) 2).bind fun bt647 => (if (bt640.1.size : Int) > 3 then ((spec_l01Next.f bt636.1 bt647.2.1 bt647.2.2 2).bind fun bt650 => (spec_DrawCoveredByTwo.j0 k bt640.1 bt640.2.1 bt647.1 (bt650.1 == 0) bt636.1 bt650.2.1 bt650.2.2)) else (spec_DrawCoveredByTwo.j0 k bt640.1 bt640.2.1 bt647.1 false bt636.1 bt647.2.1 bt647.2.2)))))
theorem spec_DrawCoveredByTwo.mono_l : ∀ k, (∀ y0 y1 y2 y3 y4 y5 y6, LeO (spec_DrawCoveredByTwo.j0 k y0 y1 y2 y3 y4 y5 y6) (spec_DrawCoveredByTwo.j0 (k + 1) y0 y1 y2 y3 y4 y5 y6))
 | 0 => fun _ _ _ _ _ _ _ r h => by simp [spec_DrawCoveredByTwo.j0] at h
 | k + 1 => by
  have ih0 := spec_DrawCoveredByTwo.mono_l k
  ·
   intro y0 y1 y2 y3 y4 y5 y6
   unfold spec_DrawCoveredByTwo.j0
   with_reducible repeat' first
   | exact ih0 _ _ _ _ _ _ _
   | exact spec_l01Bad.mono _ _ _ _ _
   | exact spec_l01DrawOf.mono _ _ _ _ _ _
   | exact spec_l01From.mono _ _
   | exact spec_l09Draw.mono _ _ _ _
   | exact LeO.refl _
   | exact LeO.none _
   | refine LeO.ite ?_ ?_
   | refine LeO.bind ?_ (fun _ => ?_)
theorem spec_DrawCoveredByTwo.mono : ∀ a0 k, LeO (spec_DrawCoveredByTwo.f k a0) (spec_DrawCoveredByTwo.f (k + 1) a0) := by
 intro a0 k
 have ih0 := spec_DrawCoveredByTwo.mono_l k
 unfold spec_DrawCoveredByTwo.f
 with_reducible repeat' first
   | exact ih0 _ _ _ _ _ _ _
   | exact spec_l01Bad.mono _ _ _ _ _
   | exact spec_l01DrawOf.mono _ _ _ _ _ _
   | exact spec_l01From.mono _ _
   | exact spec_l09Draw.mono _ _ _ _
   | exact LeO.refl _
   | exact LeO.none _
   | refine LeO.ite ?_ ?_
   | refine LeO.bind ?_ (fun _ => ?_)
set_option maxHeartbeats 8000000 in
set_option maxRecDepth 100000 in
theorem spec_DrawCoveredByTwo.calls (k : Nat) (A0 : Option Addr) (c0 : Nat) (l0 : List Int) (r1 : ByteArray) (r2 : ByteArray) (r3 : ByteArray) (w : World) (hr0 : Kd.C (Kd.int .u8) w A0 l0.length l0) (hc0 : l0.length ≤ c0) (h : spec_DrawCoveredByTwo.f k l0 = some (r1, r2, r3)) :
  Calls Tryz.prog 26 #[.slice A0 l0.length c0] w fun e w' => e = .returned (.tuple #[.string r1, .string r2, .string r3]) ∧ Below w.heap.size w w' := by
 have HR0 := Aside0.mk hr0
 have HC0 := Aside0.mk hc0
 clear hr0 hc0
 have HB := Aside0.mk (Below.refl w.heap.size w)
 have H : ((spec_l01From.f k l0).bind fun bt636 => ((spec_l09Draw.f k bt636.1 bt636.2.1 bt636.2.2).bind fun bt640 => ((spec_l01Next.f bt636.1 bt640.2.2.1 bt640.2.2.2 3).bind fun bt644 => ((spec_l01DrawOf.f k bt636.1 bt644.2.1 bt644.2.2 (wrap64 (1 + bt644.1)) 2).bind fun bt647 => (if (bt640.1.size : Int) > 3 then ((spec_l01Next.f bt636.1 bt647.2.1 bt647.2.2 2).bind fun bt650 => (spec_DrawCoveredByTwo.j0 k bt640.1 bt640.2.1 bt647.1 (bt650.1 == 0) bt636.1 bt650.2.1 bt650.2.2)) else (spec_DrawCoveredByTwo.j0 k bt640.1 bt640.2.1 bt647.1 false bt636.1 bt647.2.1 bt647.2.2)))))) = some (r1, r2, r3) := h
 clear h
 obtain ⟨⟨t636, t637, t638⟩, A2, H⟩ := qN H
 try dsimp only at H
 obtain ⟨⟨t640, t641, t642, t643⟩, A3, H⟩ := qN H
 try dsimp only at H
 obtain ⟨⟨t644, t645, t646⟩, A4, H⟩ := qN H
 try dsimp only at H
 obtain ⟨⟨t647, t648, t649⟩, A5, H⟩ := qN H
 try dsimp only at H
 have HC6 := Aside0.mk H
 clear H
 go_enter Tryz.func26, Tryz.ntmps26
 go_upto_region 4 with (first | ((with_reducible refine gate_callee (f := 48) rfl ?_); refine goesL_ (some 10) rfl rfl Tryz.func48 (by kernel_rfl) rfl #[.slice A0 l0.length c0] rfl qV ?_; (with_reducible refine (spec_l01From.calls k _ _ l0 t636 t637 t638 w _ ?side1 ?side2 ?side3 A2.out).mono ?_); (case side1 => exact qB HB.out); (case side2 => exact HR0.out); (case side3 => exact HC0.out); rintro e w7 ⟨g639, rfl, hi, hb, hb2⟩; refine ⟨_, rfl, ?_⟩; replace HB := Aside0.mk (hb); have HI639 := Aside0.mk (hi)) | ((with_reducible refine gate_callee (f := 58) rfl ?_); refine goesL_ (some 13) rfl rfl Tryz.func58 (by kernel_rfl) rfl #[.pointer (some ⟨g639, 0, none⟩)] rfl qV ?_; (with_reducible refine (spec_l09Draw.calls k g639 t636 t637 t638 t640 t641 t642 t643 w _ ?side1 ?side2 A3.out).mono ?_); (case side1 => exact qI HI639.out); (case side2 => exact qS HB.out); rintro e w8 ⟨rfl, hi, hb, hk⟩; refine ⟨_, rfl, ?_⟩; replace HB := Aside0.mk (hb); replace HI639 := Aside0.mk (hi)) | ((with_reducible refine gate_callee (f := 60) rfl ?_); refine goesL_ (some 18) rfl rfl Tryz.func60 (by kernel_rfl) rfl #[.pointer (some ⟨g639, 0, none⟩), .int .i64 3] rfl qV ?_; (with_reducible refine (spec_l01Next.calls g639 t636 t642 t643 3 t644 t645 t646 w _ ?side1 ?side2 A4.out).mono ?_); (case side1 => exact qI HI639.out); (case side2 => exact qS HB.out); rintro e w9 ⟨rfl, hi, hb, hk⟩; refine ⟨_, rfl, ?_⟩; replace HB := Aside0.mk (hb); replace HI639 := Aside0.mk (hi)) | ((with_reducible refine gate_callee (f := 59) rfl ?_); refine goesL_ (some 20) rfl rfl Tryz.func59 (by kernel_rfl) rfl #[.pointer (some ⟨g639, 0, none⟩), .int .i64 (wrap64 (1 + t644)), .int .i64 2] rfl qV ?_; (with_reducible refine (spec_l01DrawOf.calls k g639 t636 t645 t646 (wrap64 (1 + t644)) 2 t647 t648 t649 w _ ?side1 ?side2 A5.out).mono ?_); (case side1 => exact qI HI639.out); (case side2 => exact qS HB.out); rintro e w10 ⟨rfl, hi, hb, hk⟩; refine ⟨_, rfl, ?_⟩; replace HB := Aside0.mk (hb); replace HI639 := Aside0.mk (hi)))
 (try simp only [Act.put, List.setIfInBounds_toArray, List.set_cons_zero, List.set_cons_succ])
 go_cut [28] (fun v28 wc => ∃ (kq : Nat) (x28_5 : Bool) (x640001_5 : Int) (x640002_5 : Int), v28 = .bool x28_5 ∧ Aside0 (spec_DrawCoveredByTwo.j0 kq t640 t641 t647 x28_5 t636 x640001_5 x640002_5 = some (r1, r2, r3)) ∧ Aside0 (kq ≤ k) ∧ Aside0 (IsS80 w wc g639 t636 x640001_5 x640002_5) ∧ Aside0 (Below w.heap.size w wc))
 case first =>
  have H := HC6.out
  clear HC6
  by_cases c11 : (t640.size : Int) > 3
  rotate_left
  ·
   rw [if_neg c11] at H
   have c11b0 : decide (3 < (t640.size : Int)) = false := decide_eq_false c11
   have c11b1 : decide (3 < t640.size) = false := decide_eq_false (by omega)
   clear c11
   (first | rw [c11b0] | (simp only [i64_w, i32_w]; rw [c11b0]) | skip)
   have H' := Aside0.mk H
   clear H
   go_wp2
   go_meet
   case rel => exact ⟨_, (false), (t648), (t649), qF, H', ⟨by first | omega | exact Nat.le_refl _⟩, ⟨qI HI639.out⟩, ⟨qS HB.out⟩⟩
  rw [if_pos c11] at H
  have c11b0 : decide (3 < (t640.size : Int)) = true := decide_eq_true c11
  have c11b1 : decide (3 < t640.size) = true := decide_eq_true (by omega)
  clear c11
  (first | rw [c11b0] | (simp only [i64_w, i32_w]; rw [c11b0]) | skip)
  obtain ⟨⟨t650, t651, t652⟩, A12, H⟩ := qN H
  try dsimp only at H
  have H' := Aside0.mk H
  clear H
  go_wp2_with (first | (go_at_call 60; (with_reducible refine (spec_l01Next.calls g639 t636 t648 t649 2 t650 t651 t652 w _ ?side1 ?side2 A12.out).mono ?_); (case side1 => exact qI HI639.out); (case side2 => exact qS HB.out); rintro e w13 ⟨rfl, hi, hb, hk⟩; replace HB := Aside0.mk (hb); replace HI639 := Aside0.mk (hi)))
  go_meet
  case rel => exact ⟨_, ((t650 == 0)), (t651), (t652), qF, H', ⟨by first | omega | exact Nat.le_refl _⟩, ⟨qI HI639.out⟩, ⟨qS HB.out⟩⟩
 case rest =>
  clear HC6
  obtain ⟨kq, x28_5, x640001_5, x640002_5, rfl, HA, HJ5, HI639, HB⟩ := hcut
  cases kq with
  | zero => exact absurd HA.out (by simp [spec_DrawCoveredByTwo.j0])
  | succ kj5 =>
   have H := HA.out
   clear HA
   simp only [spec_DrawCoveredByTwo.j0] at H
   by_cases c14 : x28_5 = true
   rotate_left
   ·
    replace c14 := Bool.eq_false_iff.mpr c14
    subst c14
    rw [if_neg (show ¬ (false = true) by decide)] at H
    obtain ⟨⟨t662, t663, t664⟩, A24, H⟩ := qN H
    try dsimp only at H
    obtain ⟨⟨t665, t666, t667⟩, A25, H⟩ := qN H
    try dsimp only at H
    obtain ⟨⟨t668, t669, t670⟩, A26, H⟩ := qN H
    try dsimp only at H
    simp only [Option.some.injEq, Prod.mk.injEq] at H
    obtain ⟨rfl, rfl, rfl⟩ := H
    go_wp2_with (first | ((with_reducible refine gate_callee (f := 61) rfl ?_); refine goesL_ (some 36) rfl rfl Tryz.func61 (by kernel_rfl) rfl #[.pointer (some ⟨g639, 0, none⟩), .string t640] rfl qV ?_; (with_reducible refine (spec_l01Bad.calls kj5 g639 t636 x640001_5 x640002_5 t640 t662 t663 t664 w _ ?side1 ?side2 A24.out).mono ?_); (case side1 => exact qI HI639.out); (case side2 => exact qS HB.out); rintro e w27 ⟨rfl, hi, hb, hk⟩; refine ⟨_, rfl, ?_⟩; replace HB := Aside0.mk (hb); replace HI639 := Aside0.mk (hi)) | ((with_reducible refine gate_callee (f := 61) rfl ?_); refine goesL_ (some 39) rfl rfl Tryz.func61 (by kernel_rfl) rfl #[.pointer (some ⟨g639, 0, none⟩), .string t641] rfl qV ?_; (with_reducible refine (spec_l01Bad.calls kj5 g639 t636 t663 t664 t641 t665 t666 t667 w _ ?side1 ?side2 A25.out).mono ?_); (case side1 => exact qI HI639.out); (case side2 => exact qS HB.out); rintro e w28 ⟨rfl, hi, hb, hk⟩; refine ⟨_, rfl, ?_⟩; replace HB := Aside0.mk (hb); replace HI639 := Aside0.mk (hi)) | ((with_reducible refine gate_callee (f := 61) rfl ?_); refine goesL_ (some 42) rfl rfl Tryz.func61 (by kernel_rfl) rfl #[.pointer (some ⟨g639, 0, none⟩), .string t647] rfl qV ?_; (with_reducible refine (spec_l01Bad.calls kj5 g639 t636 t666 t667 t647 t668 t669 t670 w _ ?side1 ?side2 A26.out).mono ?_); (case side1 => exact qI HI639.out); (case side2 => exact qS HB.out); rintro e w29 ⟨rfl, hi, hb, hk⟩; refine ⟨_, rfl, ?_⟩; replace HB := Aside0.mk (hb); replace HI639 := Aside0.mk (hi)))
    go_ret3
    exact ⟨qE, qS HB.out⟩

   subst c14
   rw [if_pos rfl] at H
   obtain ⟨ji15, hji15⟩ : ∃ j_ : Int, (wrap64 ((t640.size : Int) - 2)) = j_ := ⟨_, rfl⟩
   replace H : (if 0 ≤ (ji15) then (if (ji15) ≤ (t640.size : Int) then ((spec_l01Bad.f kj5 t636 x640001_5 x640002_5 t640).bind fun bt653 => ((spec_l01Bad.f kj5 t636 bt653.2.1 bt653.2.2 t641).bind fun bt656 => ((spec_l01Bad.f kj5 t636 bt656.2.1 bt656.2.2 (t640.extract ((ji15) : Int).toNat t640.size)).bind fun bt659 => (some (bt653.1, bt656.1, bt659.1))))) else (none)) else (none)) = some (r1, r2, r3) := by first | (rw [hji15] at H; exact H) | (simp only [hji15] at H ⊢; exact H)
   have hji15w : (IntKind.i64.wrap ((t640.size : Int) - 2)) = ji15 := (i64_w _).trans hji15
   by_cases c16 : 0 ≤ (ji15)
   rotate_left
   ·
    rw [if_neg c16] at H
    exact absurd H (by simp)
   rw [if_pos c16] at H
   have c16b0 := eq_true c16
   have c16b1 : decide (0 ≤ (ji15)) = true := decide_eq_true c16
   clear c16
   by_cases c17 : (ji15) ≤ (t640.size : Int)
   rotate_left
   ·
    rw [if_neg c17] at H
    exact absurd H (by simp)
   rw [if_pos c17] at H
   have c17b0 := eq_true c17
   have c17b1 : decide ((ji15) ≤ (t640.size : Int)) = true := decide_eq_true c17
   clear c17
   obtain ⟨⟨t653, t654, t655⟩, A18, H⟩ := qN H
   try dsimp only at H
   obtain ⟨⟨t656, t657, t658⟩, A19, H⟩ := qN H
   try dsimp only at H
   obtain ⟨⟨t659, t660, t661⟩, A20, H⟩ := qN H
   try dsimp only at H
   simp only [Option.some.injEq, Prod.mk.injEq] at H
   obtain ⟨rfl, rfl, rfl⟩ := H
   go_wp2_with (first | ((with_reducible refine gate_callee (f := 61) rfl ?_); refine goesL_ (some 36) rfl rfl Tryz.func61 (by kernel_rfl) rfl #[.pointer (some ⟨g639, 0, none⟩), .string t640] rfl qV ?_; (with_reducible refine (spec_l01Bad.calls kj5 g639 t636 x640001_5 x640002_5 t640 t653 t654 t655 w _ ?side1 ?side2 A18.out).mono ?_); (case side1 => exact qI HI639.out); (case side2 => exact qS HB.out); rintro e w21 ⟨rfl, hi, hb, hk⟩; refine ⟨_, rfl, ?_⟩; replace HB := Aside0.mk (hb); replace HI639 := Aside0.mk (hi)) | ((with_reducible refine gate_callee (f := 61) rfl ?_); refine goesL_ (some 39) rfl rfl Tryz.func61 (by kernel_rfl) rfl #[.pointer (some ⟨g639, 0, none⟩), .string t641] rfl qV ?_; (with_reducible refine (spec_l01Bad.calls kj5 g639 t636 t654 t655 t641 t656 t657 t658 w _ ?side1 ?side2 A19.out).mono ?_); (case side1 => exact qI HI639.out); (case side2 => exact qS HB.out); rintro e w22 ⟨rfl, hi, hb, hk⟩; refine ⟨_, rfl, ?_⟩; replace HB := Aside0.mk (hb); replace HI639 := Aside0.mk (hi)) | ((with_reducible refine gate_callee (f := 61) rfl ?_); refine goesL_ (some 42) rfl rfl Tryz.func61 (by kernel_rfl) rfl #[.pointer (some ⟨g639, 0, none⟩), .string (t640.extract ((ji15) : Int).toNat t640.size)] rfl (by (try simp only [List.map_toArray, List.map_cons, List.map_nil]); first | done | (simp only [hji15]; rfl) | rfl | (simp only [List.length_drop, List.length_take]; rfl)) ?_; (with_reducible refine (spec_l01Bad.calls kj5 g639 t636 t657 t658 (t640.extract ((ji15) : Int).toNat t640.size) t659 t660 t661 w _ ?side1 ?side2 A20.out).mono ?_); (case side1 => exact qI HI639.out); (case side2 => exact qS HB.out); rintro e w23 ⟨rfl, hi, hb, hk⟩; refine ⟨_, rfl, ?_⟩; replace HB := Aside0.mk (hb); replace HI639 := Aside0.mk (hi)))
   go_ret3
   exact ⟨by first | rfl | (simp [errW_none, errW_some] <;> rfl) | (simp only [← hji15]; first | rfl | (simp [errW_none, errW_some] <;> rfl)) | (simp [*, errW_none, errW_some] <;> rfl), qS HB.out⟩
end Go.Proofs.YtcfphjjdbccnoaaGreat.PF

namespace Go.Proofs.YtcfphjjdbccnoaaGreat.PF
open Go.RowKit Go.Proofs.YtcfphjjdbccnoaaGreatW.PrintWords Go.Proofs.YtcfphjjdbccnoaaGreatW.PrintLast Go.Proofs.YtcfphjjdbccnoaaGreatW.PrintMore
attribute [local go_sem] max2_int min2_int max_two min_two max_three min_three max_four min_four   -- for this text's walks alone
set_option linter.unusedVariables false
set_option linter.unusedSimpArgs false

/-! ### spec_CoveredByTwo: function 27 -/
def spec_CoveredByTwo.f (k : Nat) (a0 : ByteArray) (a1 : ByteArray) (a2 : ByteArray) : Option (Bool × Int) := (spec_l09Code.f k a0 (([a1, a2] : List ByteArray))).bind fun t674 => (if t674 = 0 then ((spec_l09Two.f k a0 a1 a2).bind fun t675 => (some (t675, 0))) else (some (false, t674)))
theorem spec_CoveredByTwo.mono : ∀ a0 a1 a2 k, LeO (spec_CoveredByTwo.f k a0 a1 a2) (spec_CoveredByTwo.f (k + 1) a0 a1 a2) := by
 intro a0 a1 a2 k
 unfold spec_CoveredByTwo.f
 with_reducible repeat' first
   | exact spec_l09Code.mono _ _ _
   | exact spec_l09Two.mono _ _ _ _
   | exact LeO.refl _
   | exact LeO.none _
   | refine LeO.ite ?_ ?_
   | refine LeO.bind ?_ (fun _ => ?_)
set_option maxHeartbeats 8000000 in
set_option maxRecDepth 100000 in
theorem spec_CoveredByTwo.calls (k : Nat) (a0 : ByteArray) (a1 : ByteArray) (a2 : ByteArray) (r1 : Bool) (r2 : Int) (w : World) (h : spec_CoveredByTwo.f k a0 a1 a2 = some (r1, r2)) :
  Calls Tryz.prog 27 #[.string a0, .string a1, .string a2] w fun e w' => e = .returned (.tuple #[.bool r1, .int .i64 r2]) ∧ Below w.heap.size w w' := by
 have HB := Aside0.mk (Below.refl w.heap.size w)
 have H : ((spec_l09Code.f k a0 (([a1, a2] : List ByteArray))).bind fun t674 => (if t674 = 0 then ((spec_l09Two.f k a0 a1 a2).bind fun t675 => (some (t675, 0))) else (some (false, t674)))) = some (r1, r2) := h
 clear h
 obtain ⟨y671, hy671⟩ : ∃ y_ : List ByteArray, y_ = (([a1, a2] : List ByteArray)) := ⟨_, rfl⟩
 replace H : ((spec_l09Code.f k a0 y671).bind fun t674 => (if t674 = 0 then ((spec_l09Two.f k a0 a1 a2).bind fun t675 => (some (t675, 0))) else (some (false, t674)))) = some (r1, r2) := by first | (rw [hy671]; with_reducible exact H) | (have H2_ := (Option.bind_some _ _).symm.trans H; rw [hy671]; with_reducible exact H2_) | (have H2_ := (Option.bind_some _ _).symm.trans H; with_reducible exact H2_) | with_reducible exact H | (rw [hy671]; exact H) | exact H
 have Ny671 := Aside0.mk hy671
 clear hy671
 obtain ⟨t674, A4, H⟩ := qN H
 try dsimp only at H
 by_cases c5 : t674 = 0
 rotate_left
 ·
  rw [if_neg c5] at H
  obtain ⟨c5b0, c5b1⟩ := zF c5
  simp only [Option.some.injEq, Prod.mk.injEq] at H
  obtain ⟨rfl, rfl⟩ := H
  go_enter Tryz.func27, Tryz.ntmps27
  go_wp2_with (first | ((with_reducible refine gate_dst (N := 12) rfl ?_); refine Kd.R_lit Kd.string _ 9 ?hg (N := 12) ?hd (xs := ([a1, a2] : List ByteArray)) (inner := [.string a1, .string a2]) (ok := fun _ => True) (okp := fun _ => True) ?hr ?hp (fun _ hk => hk) trivial (Below.refl _ _) (Nat.le_refl _) (by simp) ?_; (case hd => rfl); (case hg => rfl); (case hr => first | (go_simp; done) | (go_simp; rfl)); (case hp => exact (Reps.one (show Kd.M Kd.string _ _ _ a1 [.string a1] from rfl) (Reps.one (show Kd.M Kd.string _ _ _ a2 [.string a2] from rfl) (Reps.none _ _)))); intro v672 w11 ho12 hb hg_ hnew_; clear hg_ hnew_; (first | rw [← Ny671.out] at ho12 | (simp only [Int.reduceToNat] at ho12; rw [← Ny671.out] at ho12)); have HO673 := Aside0.mk (Kd.R_lower ho12 (below_size (qB HB.out))); replace HB := Aside0.mk (below_step (qB HB.out) hb); clear hb ho12; obtain ⟨Ao13, co13, eo13⟩ := Kd.R_slice HO673.out; subst eo13) | ((with_reducible refine gate_callee (f := 56) rfl ?_); refine goesL_ (some 13) rfl rfl Tryz.func56 (by kernel_rfl) rfl #[.string a0, .slice Ao13 y671.length co13] rfl qV ?_; (with_reducible refine (spec_l09Code.calls k a0 _ _ y671 t674 _ ?side1 ?side2 A4.out).mono ?_); (case side1 => exact qC (Kd.R_reads' HO673.out).2.2); (case side2 => exact (Kd.R_reads' HO673.out).2.1); rintro e w' ⟨rfl, ⟨nd, rfl⟩⟩; refine ⟨_, rfl, ?_⟩))
  go_ret2
  exact ⟨qE, qB HB.out⟩

 rw [if_pos c5] at H
 obtain ⟨c5b0, c5b1⟩ := zT c5
 clear c5
 obtain ⟨t675, A6, H⟩ := qN H
 try dsimp only at H
 simp only [Option.some.injEq, Prod.mk.injEq] at H
 obtain ⟨rfl, rfl⟩ := H
 go_enter Tryz.func27, Tryz.ntmps27
 go_wp2_with (first | ((with_reducible refine gate_dst (N := 12) rfl ?_); refine Kd.R_lit Kd.string _ 9 ?hg (N := 12) ?hd (xs := ([a1, a2] : List ByteArray)) (inner := [.string a1, .string a2]) (ok := fun _ => True) (okp := fun _ => True) ?hr ?hp (fun _ hk => hk) trivial (Below.refl _ _) (Nat.le_refl _) (by simp) ?_; (case hd => rfl); (case hg => rfl); (case hr => first | (go_simp; done) | (go_simp; rfl)); (case hp => exact (Reps.one (show Kd.M Kd.string _ _ _ a1 [.string a1] from rfl) (Reps.one (show Kd.M Kd.string _ _ _ a2 [.string a2] from rfl) (Reps.none _ _)))); intro v672 w7 ho8 hb hg_ hnew_; clear hg_ hnew_; (first | rw [← Ny671.out] at ho8 | (simp only [Int.reduceToNat] at ho8; rw [← Ny671.out] at ho8)); have HO673 := Aside0.mk (Kd.R_lower ho8 (below_size (qB HB.out))); replace HB := Aside0.mk (below_step (qB HB.out) hb); clear hb ho8; obtain ⟨Ao9, co9, eo9⟩ := Kd.R_slice HO673.out; subst eo9) | ((with_reducible refine gate_callee (f := 56) rfl ?_); refine goesL_ (some 13) rfl rfl Tryz.func56 (by kernel_rfl) rfl #[.string a0, .slice Ao9 y671.length co9] rfl qV ?_; (with_reducible refine (spec_l09Code.calls k a0 _ _ y671 t674 _ ?side1 ?side2 A4.out).mono ?_); (case side1 => exact qC (Kd.R_reads' HO673.out).2.2); (case side2 => exact (Kd.R_reads' HO673.out).2.1); rintro e w' ⟨rfl, ⟨nd, rfl⟩⟩; refine ⟨_, rfl, ?_⟩) | ((with_reducible refine gate_callee (f := 54) rfl ?_); refine goesL_ (some 20) rfl rfl Tryz.func54 (by kernel_rfl) rfl #[.string a0, .string a1, .string a2] rfl qV ?_; (with_reducible refine (spec_l09Two.calls k a0 a1 a2 t675 _ A6.out).mono ?_); rintro e w10 ⟨rfl, hb⟩; refine ⟨_, rfl, ?_⟩; replace HO673 := Aside0.mk (Kd.R_below (qR HO673.out) hb); replace HB := Aside0.mk (below_step (qB HB.out) hb)))
 go_ret2
 exact ⟨qE, qB HB.out⟩
end Go.Proofs.YtcfphjjdbccnoaaGreat.PF
