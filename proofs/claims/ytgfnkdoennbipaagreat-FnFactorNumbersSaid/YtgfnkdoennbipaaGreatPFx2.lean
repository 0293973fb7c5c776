-- an own text, written by a program of this place (wip/tools)
import Derived.Test.YtgfnkdoennbipaaGreatPFx0
import Derived.Test.YtgfnkdoennbipaaGreatPFx1
namespace Go.Proofs.YtgfnkdoennbipaaGreat.PF
open Go.RowKit Go.Proofs.YtgfnkdoennbipaaGreatW.PrintWords Go.Proofs.YtgfnkdoennbipaaGreatW.PrintLast Go.Proofs.YtgfnkdoennbipaaGreatW.PrintMore
attribute [local go_sem] max2_int min2_int max_two min_two max_three min_three max_four min_four   -- for this text's walks alone
set_option linter.unusedVariables false
set_option linter.unusedSimpArgs false

/-! ### spec_l01Put: function 67 -/
def spec_l01Put.l0 : Nat → List ByteArray → ByteArray → Int → Option (List ByteArray)
 | 0, _, _, _ => none
 | k + 1, x0, x1, x5 => if x5 > 0 then (if 0 ≤ (wrap64 (x5 - 1)) then (if (wrap64 (x5 - 1)) < (x0.length : Int) then (if (Op.bytesLess x1.toList ((rdOf ByteArray.empty x0 (wrap64 (x5 - 1))).toList)) = true then (spec_l01Put.l0 k x0 x1 (wrap64 (x5 - 1))) else (if (rdOf ByteArray.empty x0 (wrap64 (x5 - 1))).toList = x1.toList then (some x0) else ((some (([] : List ByteArray) : List ByteArray)).bind fun y336 => (if 0 ≤ x5 then (if x5 ≤ (x0.length : Int) then ((some (x0.take (x5 : Int).toNat : List ByteArray)).bind fun y339 => (if y336.length + y339.length < 8796093022208 then ((some (y336 ++ y339 : List ByteArray)).bind fun y343 => (if y343.length < 8796093022208 then ((some (y343 ++ [x1] : List ByteArray)).bind fun y346 => ((some (x0.drop (x5 : Int).toNat : List ByteArray)).bind fun y349 => (if y346.length + y349.length < 8796093022208 then (some (y346 ++ y349)) else (none)))) else (none))) else (none))) else (none)) else (none))))) else (none)) else (none)) else ((some (([] : List ByteArray) : List ByteArray)).bind fun y356 => (if 0 ≤ x5 then (if x5 ≤ (x0.length : Int) then ((some (x0.take (x5 : Int).toNat : List ByteArray)).bind fun y359 => (if y356.length + y359.length < 8796093022208 then ((some (y356 ++ y359 : List ByteArray)).bind fun y363 => (if y363.length < 8796093022208 then ((some (y363 ++ [x1] : List ByteArray)).bind fun y366 => ((some (x0.drop (x5 : Int).toNat : List ByteArray)).bind fun y369 => (if y366.length + y369.length < 8796093022208 then (some (y366 ++ y369)) else (none)))) else (none))) else (none))) else (none)) else (none)))
def spec_l01Put.f (k : Nat) (l0 : List ByteArray) (a1 : ByteArray) : Option (List ByteArray) := spec_l01Put.l0 k l0 a1 (l0.length : Int)
theorem spec_l01Put.mono_l : ∀ k, (∀ y0 y1 y2, LeO (spec_l01Put.l0 k y0 y1 y2) (spec_l01Put.l0 (k + 1) y0 y1 y2))
 | 0 => fun _ _ _ r h => by simp [spec_l01Put.l0] at h
 | k + 1 => by
  have ih0 := spec_l01Put.mono_l k
  ·
   intro y0 y1 y2
   unfold spec_l01Put.l0
   with_reducible repeat' first
   | exact ih0 _ _ _
   | exact LeO.refl _
   | exact LeO.none _
   | refine LeO.ite ?_ ?_
   | refine LeO.bind ?_ (fun _ => ?_)
theorem spec_l01Put.mono : ∀ a0 a1 k, LeO (spec_l01Put.f k a0 a1) (spec_l01Put.f (k + 1) a0 a1) := by
 intro a0 a1 k
 have ih0 := spec_l01Put.mono_l k
 unfold spec_l01Put.f
 with_reducible repeat' first
   | exact ih0 _ _ _
   | exact LeO.refl _
   | exact LeO.none _
   | refine LeO.ite ?_ ?_
   | refine LeO.bind ?_ (fun _ => ?_)
set_option maxHeartbeats 8000000 in
set_option maxRecDepth 100000 in
theorem spec_l01Put.calls (k : Nat) (P0_ : Nat → Prop) (u9000_ : Value) (l0 : List ByteArray) (a1 : ByteArray) (r : List ByteArray) (w0 w : World) (hB : Below w0.heap.size w0 w) (ho0 : Kd.R Kd.string 9 w w0.heap.size P0_ u9000_ l0) (h : spec_l01Put.f k l0 a1 = some r) :
  Calls Tryz.prog 67 #[u9000_, .string a1] w fun e w' => ∃ v0_ : Value, e = .returned (v0_) ∧ Kd.R Kd.string 9 w' w0.heap.size (fun k_ => (P0_ k_ ∨ w.heap.size ≤ k_)) v0_ r ∧ Below w0.heap.size w0 w' ∧ Kept w w' (fun k_ => P0_ k_) := by
 have HO0 := Aside0.mk (show Kd.R Kd.string 9 w w0.heap.size (fun k_ => (P0_ k_ ∨ w.heap.size ≤ k_)) u9000_ l0 from Kd.R_mono ho0 (fun k_ hk => (.inl hk)))
 have HK := Aside0.mk (Kept.refl w (fun k_ => P0_ k_))
 have HW0 := Aside0.mk hB.size
 have HB := Aside0.mk hB
 clear hB
 have H : (spec_l01Put.l0 k l0 a1 (l0.length : Int)) = some r := h
 clear h
 have H' := Aside0.mk H
 clear H
 obtain ⟨Ao3, co3, eo3⟩ := Kd.R_slice HO0.out
 subst eo3
 go_enter Tryz.func67, Tryz.ntmps67
 go_wp2
 go_loopg [5] k (fun kq v5 w' => ∃ (x5_1 : Int), v5 = .int .i64 x5_1 ∧ Aside0 (spec_l01Put.l0 kq l0 a1 x5_1 = some r) ∧ Aside0 (kq ≤ k) ∧ Aside0 (Kd.R Kd.string 9 w' w0.heap.size (fun k_ => (P0_ k_ ∨ w.heap.size ≤ k_)) (.slice Ao3 l0.length co3) l0) ∧ Aside0 (Kept w w' (fun k_ => P0_ k_)) ∧ Aside0 (Below w0.heap.size w0 w'))
 case atStart => exact ⟨((l0.length : Int)), qF, H', ⟨Nat.le_refl _⟩, ⟨qR HO0.out⟩, ⟨by repeat (first | (with_reducible first | exact HK.out | apply Kept.alloc | apply Kept.drewN | apply Kept.drew) | exact HK.out)⟩, ⟨qB HB.out⟩⟩
 case round =>
  clear H'
  obtain ⟨x5_1, rfl, HA, HK1, HO_0, HK, HB⟩ := hrel
  cases gk with
  | zero => exact absurd HA.out (by simp [spec_l01Put.l0])
  | succ k1 =>
   have H := HA.out
   clear HA
   simp only [spec_l01Put.l0] at H
   by_cases c4 : x5_1 > 0
   rotate_left
   ·
    rw [if_neg c4] at H
    have c4b0 : decide (0 < x5_1) = false := decide_eq_false c4
    clear c4
    obtain ⟨y356, hy356⟩ : ∃ y_ : List ByteArray, y_ = (([] : List ByteArray)) := ⟨_, rfl⟩
    replace H : (if 0 ≤ x5_1 then (if x5_1 ≤ (l0.length : Int) then ((some (l0.take (x5_1 : Int).toNat : List ByteArray)).bind fun y359 => (if y356.length + y359.length < 8796093022208 then ((some (y356 ++ y359 : List ByteArray)).bind fun y363 => (if y363.length < 8796093022208 then ((some (y363 ++ [a1] : List ByteArray)).bind fun y366 => ((some (l0.drop (x5_1 : Int).toNat : List ByteArray)).bind fun y369 => (if y366.length + y369.length < 8796093022208 then (some (y366 ++ y369)) else (none)))) else (none))) else (none))) else (none)) else (none)) = some r := by first | (rw [hy356]; with_reducible exact H) | (have H2_ := (Option.bind_some _ _).symm.trans H; rw [hy356]; with_reducible exact H2_) | (have H2_ := (Option.bind_some _ _).symm.trans H; with_reducible exact H2_) | with_reducible exact H | (rw [hy356]; exact H) | exact H
    have Ny356 := Aside0.mk hy356
    clear hy356
    by_cases c24 : 0 ≤ x5_1
    rotate_left
    ·
     rw [if_neg c24] at H
     exact absurd H (by simp)

    rw [if_pos c24] at H
    have c24b0 := eq_true c24
    have c24b1 : decide (0 ≤ x5_1) = true := decide_eq_true c24
    clear c24
    by_cases c25 : x5_1 ≤ (l0.length : Int)
    rotate_left
    ·
     rw [if_neg c25] at H
     exact absurd H (by simp)
    rw [if_pos c25] at H
    have c25b0 := eq_true c25
    have c25b1 : decide (x5_1 ≤ (l0.length : Int)) = true := decide_eq_true c25
    clear c25
    obtain ⟨y359, hy359⟩ : ∃ y_ : List ByteArray, y_ = (l0.take (x5_1 : Int).toNat) := ⟨_, rfl⟩
    replace H : (if y356.length + y359.length < 8796093022208 then ((some (y356 ++ y359 : List ByteArray)).bind fun y363 => (if y363.length < 8796093022208 then ((some (y363 ++ [a1] : List ByteArray)).bind fun y366 => ((some (l0.drop (x5_1 : Int).toNat : List ByteArray)).bind fun y369 => (if y366.length + y369.length < 8796093022208 then (some (y366 ++ y369)) else (none)))) else (none))) else (none)) = some r := by first | (rw [hy359]; with_reducible exact H) | (have H2_ := (Option.bind_some _ _).symm.trans H; rw [hy359]; with_reducible exact H2_) | (have H2_ := (Option.bind_some _ _).symm.trans H; with_reducible exact H2_) | with_reducible exact H | (rw [hy359]; exact H) | exact H
    have Ny359 := Aside0.mk hy359
    clear hy359
    by_cases c26 : y356.length + y359.length < 8796093022208
    rotate_left
    ·
     rw [if_neg c26] at H
     exact absurd H (by simp)
    rw [if_pos c26] at H
    have LMc26 := Aside0.mk c26
    clear c26
    obtain ⟨y363, hy363⟩ : ∃ y_ : List ByteArray, y_ = (y356 ++ y359) := ⟨_, rfl⟩
    replace H : (if y363.length < 8796093022208 then ((some (y363 ++ [a1] : List ByteArray)).bind fun y366 => ((some (l0.drop (x5_1 : Int).toNat : List ByteArray)).bind fun y369 => (if y366.length + y369.length < 8796093022208 then (some (y366 ++ y369)) else (none)))) else (none)) = some r := by first | (rw [hy363]; with_reducible exact H) | (have H2_ := (Option.bind_some _ _).symm.trans H; rw [hy363]; with_reducible exact H2_) | (have H2_ := (Option.bind_some _ _).symm.trans H; with_reducible exact H2_) | with_reducible exact H | (rw [hy363]; exact H) | exact H
    have Ny363 := Aside0.mk hy363
    clear hy363
    by_cases c27 : y363.length < 8796093022208
    rotate_left
    ·
     rw [if_neg c27] at H
     exact absurd H (by simp)
    rw [if_pos c27] at H
    have LMc27 := Aside0.mk c27
    clear c27
    obtain ⟨y366, hy366⟩ : ∃ y_ : List ByteArray, y_ = (y363 ++ [a1]) := ⟨_, rfl⟩
    replace H : ((some (l0.drop (x5_1 : Int).toNat : List ByteArray)).bind fun y369 => (if y366.length + y369.length < 8796093022208 then (some (y366 ++ y369)) else (none))) = some r := by first | (rw [hy366]; with_reducible exact H) | (have H2_ := (Option.bind_some _ _).symm.trans H; rw [hy366]; with_reducible exact H2_) | (have H2_ := (Option.bind_some _ _).symm.trans H; with_reducible exact H2_) | with_reducible exact H | (rw [hy366]; exact H) | exact H
    have Ny366 := Aside0.mk hy366
    clear hy366
    have c28b0 := eq_true (of_decide_eq_true (by first | (with_reducible assumption) | assumption) : 0 ≤ x5_1)
    have c29b0 := eq_true (of_decide_eq_true (by first | (with_reducible assumption) | assumption) : x5_1 ≤ (l0.length : Int))
    obtain ⟨y369, hy369⟩ : ∃ y_ : List ByteArray, y_ = (l0.drop (x5_1 : Int).toNat) := ⟨_, rfl⟩
    replace H : (if y366.length + y369.length < 8796093022208 then (some (y366 ++ y369)) else (none)) = some r := by first | (rw [hy369]; with_reducible exact H) | (have H2_ := (Option.bind_some _ _).symm.trans H; rw [hy369]; with_reducible exact H2_) | (have H2_ := (Option.bind_some _ _).symm.trans H; with_reducible exact H2_) | with_reducible exact H | (rw [hy369]; exact H) | exact H
    have Ny369 := Aside0.mk hy369
    clear hy369
    by_cases c30 : y366.length + y369.length < 8796093022208
    rotate_left
    ·
     rw [if_neg c30] at H
     exact absurd H (by simp)
    rw [if_pos c30] at H
    have LMc30 := Aside0.mk c30
    clear c30
    obtain ⟨y373, hy373⟩ : ∃ y_ : List ByteArray, y_ = (y366 ++ y369) := ⟨_, rfl⟩
    replace H : (some y373) = some r := by first | (rw [hy373]; with_reducible exact H) | (have H2_ := (Option.bind_some _ _).symm.trans H; rw [hy373]; with_reducible exact H2_) | (have H2_ := (Option.bind_some _ _).symm.trans H; with_reducible exact H2_) | with_reducible exact H | (rw [hy373]; exact H) | exact H
    have Ny373 := Aside0.mk hy373
    clear hy373
    obtain rfl := Option.some.inj H
    go_wp2_with (first | ((with_reducible refine gate_dst (N := 34) rfl ?_); refine Kd.R_lit Kd.string _ 9 ?hg (N := 34) ?hd (xs := ([] : List ByteArray)) (inner := []) (ok := fun _ => True) (okp := fun _ => True) ?hr ?hp (fun _ hk => hk) trivial (Below.refl _ _) (Nat.le_refl _) (by simp) ?_; (case hd => rfl); (case hg => rfl); (case hr => first | (go_simp; done) | (go_simp; rfl)); (case hp => exact (Reps.none _ _)); intro v357 w31 ho32 hb hg_ hnew_; clear hg_ hnew_; (first | rw [← Ny356.out] at ho32 | (simp only [Int.reduceToNat] at ho32; rw [← Ny356.out] at ho32)); have HO358 := Aside0.mk (Kd.R_lower (Kd.R_new' (Kd.R_newM (M := fun k_ => (P0_ k_ ∨ w.heap.size ≤ k_)) ho32 (by first | exact HK.out.1 | exact (show Kept w _ (fun k_ => P0_ k_) from by repeat (first | (with_reducible first | exact HK.out | apply Kept.alloc | apply Kept.drewN | apply Kept.drew) | exact HK.out)).1) (fun k_ h_ => .inr h_)) (Kd.R_lt (qR HO_0.out))) (below_size (qB HB.out))); replace HO_0 := Aside0.mk (Kd.R_elder' (qR HO_0.out) (Kd.R_base ho32) hb); replace HK := Aside0.mk (Kept.below (S := (fun k_ => P0_ k_)) (by repeat (first | (with_reducible first | exact HK.out | apply Kept.alloc | apply Kept.drewN | apply Kept.drew) | exact HK.out)) hb); replace HB := Aside0.mk (below_step (qB HB.out) hb); clear hb ho32; have q33 : (x5_1 : Int) ≤ ((l0.length : Int) : Int) := of_decide_eq_true (by first | (with_reducible assumption) | assumption); obtain ⟨i033, hi033, _, hsz33, _⟩ := info_parts info9; have hroom33 : l0.length ≤ co3 := (Kd.R_reads' HO_0.out).2.1; have hC33 : Kd.C Kd.string _ Ao3 l0.length l0 := (Kd.R_reads' HO_0.out).2.2; have hcut33 := cut_to (P := Tryz.prog) 26 9 .i64 Tryz.underlying26 hi033 Ao3 l0.length co3 x5_1 (of_decide_eq_true (by first | (with_reducible assumption) | assumption)) q33 hroom33; have hr33 := Kd.C_take (m := (x5_1 : Int).toNat) hC33 (by omega); have hy33 : y359.length = (x5_1 : Int).toNat := (by rw [Ny359.out, List.length_take]; omega); rw [← Ny359.out] at hr33; rw [← hy33] at hcut33; have HR362 := Aside0.mk hr33; have HC362 := Aside0.mk (show y359.length ≤ co3 from by omega); clear hr33 hC33 hroom33 hi033 hsz33; have KY33 := Aside0.mk hy33; clear hy33; have KL33 := Aside0.mk (show (x5_1 : Int).toNat ≤ l0.length from by omega); replace q33 := eq_true q33) | ((with_reducible refine gate_builtin (b := .append) (xs := #[.tmp 34, .tmp 37]) rfl ?_); at_builtin; refine Kd.R_append_rows Kd.string (w0 := w0) w0.heap.size rfl (.tmp 34) (.tmp 37) 26 9 (.string ⟨#[]⟩) 16 rfl Tryz.underlying26 info9 rfl (by decide) (by omega) v357 y356 y359 _ _ _ (fun k_ => (P0_ k_ ∨ w.heap.size ≤ k_) ∧ some k_ ≠ (.slice Ao3 l0.length co3 : Value).ownBlock) (fun _ => False) rfl rfl ?aO ?aR (fun _ _ h => h) (fun _ h => h.elim) ?aF ?aB ?aS ?aL ?_; (case aR => repeat (first | exact (by repeat (first | (with_reducible exact HR362.out) | (with_reducible refine Kd.C_alloc ?_ _) | (with_reducible refine Kd.C_drewN ?_ _) | (with_reducible refine Kd.C_drew ?_) | exact HR362.out)) | (with_reducible refine Kd.C_alloc ?_ _) | (with_reducible refine Kd.C_drewN ?_ _) | (with_reducible refine Kd.C_drew ?_))); (case aB => exact (qB HB.out)); (case aF => exact (fun k_ hk => ⟨(.inr (Nat.le_trans (by first | exact HK.out.1 | exact (show Kept w _ (fun k_ => P0_ k_) from by repeat (first | (with_reducible first | exact HK.out | apply Kept.alloc | apply Kept.drewN | apply Kept.drew) | exact HK.out)).1) hk)), Kd.fresh' (Kd.R_lt (qR HO_0.out)) k_ hk⟩)); (case aO => exact (by (with_reducible repeat (first | apply Kd.R_alloc | apply Kd.R_drewN | apply Kd.R_drew)); exact Kd.R_mono HO358.out (fun _ hk => ⟨hk.1.1, hk.2⟩))); (case aS => exact (below_size (qB HB.out))); (case aL => have := LMc26.out; omega); intro v364 w34 ho hb hg hat; rw [← Ny363.out] at ho; replace HB := Aside0.mk (hb); replace HK := Aside0.mk (Kept.of_grown (S := (fun k_ => P0_ k_)) hg (by repeat (first | (with_reducible first | exact HK.out | apply Kept.alloc | apply Kept.drewN | apply Kept.drew) | exact HK.out)) (fun k_ e_ => (HO358.out.1 k_ e_).1.1)); replace HR362 := Aside0.mk ((show Kd.C Kd.string w34 Ao3 y359.length y359 from by rw [Ny359.out]; exact Kd.C_take (m := (x5_1 : Int).toNat) ((Kd.R_reads' (Kd.R_after (ok := (fun k_ => (P0_ k_ ∨ w.heap.size ≤ k_))) (qR HO_0.out) hg hat)).2.2) KL33.out)); replace HO_0 := Aside0.mk (Kd.R_after (ok := (fun k_ => (P0_ k_ ∨ w.heap.size ≤ k_))) (qR HO_0.out) hg hat); have HO365 := Aside0.mk (ho); clear HO358; clear ho hb hg hat) | ((with_reducible refine gate_builtin (b := .append) (xs := #[.tmp 38, .tmp 40]) rfl ?_); at_builtin; refine Kd.R_append Kd.string (w0 := w0) w0.heap.size rfl (.tmp 38) (.tmp 40) 26 9 (.string ⟨#[]⟩) 16 rfl Tryz.underlying26 info9 rfl (by decide) (by omega) v364 y363 a1 [.string a1] (fun k_ => (P0_ k_ ∨ w.heap.size ≤ k_) ∧ some k_ ≠ (.slice Ao3 l0.length co3 : Value).ownBlock) (fun _ => False) rfl rfl ?aP (fun _ hk => hk.elim) ?aF ?aO ?aB ?aS ?aL ?_; (case aP => exact rfl); (case aB => exact (qB HB.out)); (case aF => exact (fun k_ hk => ⟨(.inr (Nat.le_trans (by first | exact HK.out.1 | exact (show Kept w _ (fun k_ => P0_ k_) from by repeat (first | (with_reducible first | exact HK.out | apply Kept.alloc | apply Kept.drewN | apply Kept.drew) | exact HK.out)).1) hk)), Kd.fresh' (Kd.R_lt (qR HO_0.out)) k_ hk⟩)); (case aO => exact (qR HO365.out)); (case aS => exact (below_size (qB HB.out))); (case aL => have := LMc27.out; omega); intro v367 w35 ho hb hg hat; rw [← Ny366.out] at ho; replace HB := Aside0.mk (hb); replace HK := Aside0.mk (Kept.of_grown (S := (fun k_ => P0_ k_)) hg (by repeat (first | (with_reducible first | exact HK.out | apply Kept.alloc | apply Kept.drewN | apply Kept.drew) | exact HK.out)) (fun k_ e_ => (HO365.out.1 k_ e_).1)); replace HR362 := Aside0.mk ((show Kd.C Kd.string w35 Ao3 y359.length y359 from by rw [Ny359.out]; exact Kd.C_take (m := (x5_1 : Int).toNat) ((Kd.R_reads' (Kd.R_after (ok := (fun k_ => (P0_ k_ ∨ w.heap.size ≤ k_))) (qR HO_0.out) hg hat)).2.2) KL33.out)); replace HO_0 := Aside0.mk (Kd.R_after (ok := (fun k_ => (P0_ k_ ∨ w.heap.size ≤ k_))) (qR HO_0.out) hg hat); have HO368 := Aside0.mk (ho); clear HO365; clear ho hb hg hat; have q36 : (x5_1 : Int) ≤ ((l0.length : Int) : Int) := of_decide_eq_true (by first | (with_reducible assumption) | assumption); obtain ⟨i036, hi036, _, hsz36, _⟩ := info_parts info9; have hroom36 : l0.length ≤ co3 := (Kd.R_reads' HO_0.out).2.1; have hC36 : Kd.C Kd.string _ Ao3 l0.length l0 := (Kd.R_reads' HO_0.out).2.2; have q036 : (0 : Int) ≤ (x5_1 : Int) := of_decide_eq_true (by first | (with_reducible assumption) | assumption); have hcut36 := cut_from (P := Tryz.prog) 26 9 .i64 Tryz.underlying26 hi036 1 hsz36 Ao3 l0.length co3 x5_1 q036 q36; have hr36 := Kd.C_drop (m := (x5_1 : Int).toNat) (c := co3) hC36 (by omega) hroom36; obtain ⟨A36, hA36⟩ : ∃ A1, A1 = (if co3 = (x5_1 : Int).toNat then Ao3 else (Ao3 : Option Addr).map (·.add ((x5_1 : Int).toNat * 1))) := ⟨_, rfl⟩; obtain ⟨c36, hc36⟩ : ∃ c1, c1 = co3 - (x5_1 : Int).toNat := ⟨_, rfl⟩; have hy36 : y369.length = l0.length - (x5_1 : Int).toNat := (by rw [Ny369.out, List.length_drop] <;> omega); rw [show (l0).drop (x5_1 : Int).toNat = y369 from Ny369.out.symm] at hr36; replace hr36 : Kd.C Kd.string _ A36 y369.length y369 := (by rw [hA36]; exact hr36); rw [← hy36, ← hA36, ← hc36] at hcut36; have HR372 := Aside0.mk hr36; have HC372 := Aside0.mk (show y369.length ≤ c36 from by rw [hy36, hc36]; exact Nat.sub_le_sub_right hroom36 _); clear hr36 hC36 hroom36 hi036 hsz36 hc36; have KY36 := Aside0.mk hy36; have KA36 := Aside0.mk hA36; clear hy36 hA36; have KL36 := Aside0.mk (show (x5_1 : Int).toNat ≤ l0.length from by omega); replace q36 := eq_true q36) | ((with_reducible refine gate_builtin (b := .append) (xs := #[.tmp 42, .tmp 45]) rfl ?_); at_builtin; refine Kd.R_append_rows Kd.string (w0 := w0) w0.heap.size rfl (.tmp 42) (.tmp 45) 26 9 (.string ⟨#[]⟩) 16 rfl Tryz.underlying26 info9 rfl (by decide) (by omega) v367 y366 y369 _ _ _ (fun k_ => (P0_ k_ ∨ w.heap.size ≤ k_) ∧ some k_ ≠ (.slice Ao3 l0.length co3 : Value).ownBlock) (fun _ => False) rfl rfl ?aO ?aR (fun _ _ h => h) (fun _ h => h.elim) ?aF ?aB ?aS ?aL ?_; (case aR => repeat (first | exact (by repeat (first | (with_reducible exact HR372.out) | (with_reducible refine Kd.C_alloc ?_ _) | (with_reducible refine Kd.C_drewN ?_ _) | (with_reducible refine Kd.C_drew ?_) | exact HR372.out)) | (with_reducible refine Kd.C_alloc ?_ _) | (with_reducible refine Kd.C_drewN ?_ _) | (with_reducible refine Kd.C_drew ?_))); (case aB => exact (qB HB.out)); (case aF => exact (fun k_ hk => ⟨(.inr (Nat.le_trans (by first | exact HK.out.1 | exact (show Kept w _ (fun k_ => P0_ k_) from by repeat (first | (with_reducible first | exact HK.out | apply Kept.alloc | apply Kept.drewN | apply Kept.drew) | exact HK.out)).1) hk)), Kd.fresh' (Kd.R_lt (qR HO_0.out)) k_ hk⟩)); (case aO => exact (qR HO368.out)); (case aS => exact (below_size (qB HB.out))); (case aL => have := LMc30.out; omega); intro v374 w37 ho hb hg hat; rw [← Ny373.out] at ho; replace HB := Aside0.mk (hb); replace HK := Aside0.mk (Kept.of_grown (S := (fun k_ => P0_ k_)) hg (by repeat (first | (with_reducible first | exact HK.out | apply Kept.alloc | apply Kept.drewN | apply Kept.drew) | exact HK.out)) (fun k_ e_ => (HO368.out.1 k_ e_).1)); replace HR362 := Aside0.mk ((show Kd.C Kd.string w37 Ao3 y359.length y359 from by rw [Ny359.out]; exact Kd.C_take (m := (x5_1 : Int).toNat) ((Kd.R_reads' (Kd.R_after (ok := (fun k_ => (P0_ k_ ∨ w.heap.size ≤ k_))) (qR HO_0.out) hg hat)).2.2) KL33.out)); replace HR372 := Aside0.mk ((show Kd.C Kd.string w37 A36 y369.length y369 from by rw [Ny369.out, KA36.out]; exact Kd.C_drop (m := (x5_1 : Int).toNat) (c := co3) ((Kd.R_reads' (Kd.R_after (ok := (fun k_ => (P0_ k_ ∨ w.heap.size ≤ k_))) (qR HO_0.out) hg hat)).2.2) KL36.out ((Kd.R_reads' (Kd.R_after (ok := (fun k_ => (P0_ k_ ∨ w.heap.size ≤ k_))) (qR HO_0.out) hg hat)).2.1))); replace HO_0 := Aside0.mk (Kd.R_after (ok := (fun k_ => (P0_ k_ ∨ w.heap.size ≤ k_))) (qR HO_0.out) hg hat); have HO375 := Aside0.mk (ho); clear HO368; clear ho hb hg hat))
    go_ret
    exact ⟨_, qE, by (with_reducible repeat (first | apply Kd.R_alloc | apply Kd.R_drewN | apply Kd.R_drew)); exact Kd.R_mono HO375.out (fun _ hk => hk.1), qB HB.out, by repeat (first | (with_reducible first | exact HK.out | apply Kept.alloc | apply Kept.drewN | apply Kept.drew) | exact HK.out)⟩
   rw [if_pos c4] at H
   have c4b0 : decide (0 < x5_1) = true := decide_eq_true c4
   clear c4
   obtain ⟨ji5, hji5⟩ : ∃ j_ : Int, (wrap64 (x5_1 - 1)) = j_ := ⟨_, rfl⟩
   replace H : (if 0 ≤ (ji5) then (if (ji5) < (l0.length : Int) then (if (Op.bytesLess a1.toList ((rdOf ByteArray.empty l0 (ji5)).toList)) = true then (spec_l01Put.l0 k1 l0 a1 ji5) else (if (rdOf ByteArray.empty l0 (ji5)).toList = a1.toList then (some l0) else ((some (([] : List ByteArray) : List ByteArray)).bind fun y336 => (if 0 ≤ x5_1 then (if x5_1 ≤ (l0.length : Int) then ((some (l0.take (x5_1 : Int).toNat : List ByteArray)).bind fun y339 => (if y336.length + y339.length < 8796093022208 then ((some (y336 ++ y339 : List ByteArray)).bind fun y343 => (if y343.length < 8796093022208 then ((some (y343 ++ [a1] : List ByteArray)).bind fun y346 => ((some (l0.drop (x5_1 : Int).toNat : List ByteArray)).bind fun y349 => (if y346.length + y349.length < 8796093022208 then (some (y346 ++ y349)) else (none)))) else (none))) else (none))) else (none)) else (none))))) else (none)) else (none)) = some r := by first | (rw [hji5] at H; exact H) | (simp only [hji5] at H ⊢; exact H)
   have hji5w : (IntKind.i64.wrap (x5_1 - 1)) = ji5 := (i64_w _).trans hji5
   by_cases c6 : 0 ≤ (ji5)
   rotate_left
   ·
    rw [if_neg c6] at H
    exact absurd H (by simp)
   rw [if_pos c6] at H
   have c6b0 : decide (0 ≤ (ji5)) = true := decide_eq_true c6
   clear c6
   by_cases c7 : (ji5) < (l0.length : Int)
   rotate_left
   ·
    rw [if_neg c7] at H
    exact absurd H (by simp)
   rw [if_pos c7] at H
   have c7b0 : decide ((ji5) < (l0.length : Int)) = true := decide_eq_true c7
   clear c7
   by_cases c8 : (Op.bytesLess a1.toList ((rdOf ByteArray.empty l0 (ji5)).toList)) = true
   ·
    rw [if_pos c8] at H
    have c8b0 : (Op.bytesLess a1.toList ((rdOf ByteArray.empty l0 (ji5)).toList)) = true := c8
    clear c8
    have H' := Aside0.mk H
    clear H
    have p334 : 0 ≤ ((ji5) : Int) := of_decide_eq_true (by first | (with_reducible assumption) | assumption)
    have q334 : (ji5) < (l0.length : Int) := of_decide_eq_true (by first | (with_reducible assumption) | assumption)
    obtain ⟨ad334, e334, hx334_0⟩ := Kd.at_string (Kd.R_reads' HO_0.out).2.2 (ji5) p334 q334
    cases e334
    replace p334 := eq_true p334
    replace q334 := eq_true q334
    go_wp2
    go_roundg k1
    case measure => have := HK1.out; omega
    case rel => exact ⟨(ji5), (by first | rfl | (simp; done) | (simp only [← hji5] <;> (first | rfl | simp)) | (simp [*]; done)), H', ⟨by have := HK1.out; omega⟩, ⟨qR HO_0.out⟩, ⟨by repeat (first | (with_reducible first | exact HK.out | apply Kept.alloc | apply Kept.drewN | apply Kept.drew) | exact HK.out)⟩, ⟨qB HB.out⟩⟩
   rw [if_neg c8] at H
   have c8b0 : (Op.bytesLess a1.toList ((rdOf ByteArray.empty l0 (ji5)).toList)) = false := by simpa using c8
   clear c8
   by_cases c9 : (rdOf ByteArray.empty l0 (ji5)).toList = a1.toList
   ·
    rw [if_pos c9] at H
    obtain ⟨c9b0, c9b1⟩ := zT c9
    clear c9
    obtain rfl := Option.some.inj H
    have p334 : 0 ≤ ((ji5) : Int) := of_decide_eq_true (by first | (with_reducible assumption) | assumption)
    have q334 : (ji5) < (l0.length : Int) := of_decide_eq_true (by first | (with_reducible assumption) | assumption)
    obtain ⟨ad334, e334, hx334_0⟩ := Kd.at_string (Kd.R_reads' HO_0.out).2.2 (ji5) p334 q334
    cases e334
    replace p334 := eq_true p334
    replace q334 := eq_true q334
    have p335 : 0 ≤ ((ji5) : Int) := of_decide_eq_true (by first | (with_reducible assumption) | assumption)
    have q335 : (ji5) < (l0.length : Int) := of_decide_eq_true (by first | (with_reducible assumption) | assumption)
    obtain ⟨ad335, e335, hx335_0⟩ := Kd.at_string (Kd.R_reads' HO_0.out).2.2 (ji5) p335 q335
    obtain rfl : ad334 = ad335 := (by injection e335)
    replace p335 := eq_true p335
    replace q335 := eq_true q335
    go_wp2
    go_ret
    exact ⟨_, by first | rfl | (simp [errW_none, errW_some] <;> rfl) | (simp only [← hji5]; first | rfl | (simp [errW_none, errW_some] <;> rfl)) | (simp [*, errW_none, errW_some] <;> rfl), qR HO_0.out, qB HB.out, by repeat (first | (with_reducible first | exact HK.out | apply Kept.alloc | apply Kept.drewN | apply Kept.drew) | exact HK.out)⟩
   rw [if_neg c9] at H
   obtain ⟨c9b0, c9b1⟩ := zF c9
   obtain ⟨y336, hy336⟩ : ∃ y_ : List ByteArray, y_ = (([] : List ByteArray)) := ⟨_, rfl⟩
   replace H : (if 0 ≤ x5_1 then (if x5_1 ≤ (l0.length : Int) then ((some (l0.take (x5_1 : Int).toNat : List ByteArray)).bind fun y339 => (if y336.length + y339.length < 8796093022208 then ((some (y336 ++ y339 : List ByteArray)).bind fun y343 => (if y343.length < 8796093022208 then ((some (y343 ++ [a1] : List ByteArray)).bind fun y346 => ((some (l0.drop (x5_1 : Int).toNat : List ByteArray)).bind fun y349 => (if y346.length + y349.length < 8796093022208 then (some (y346 ++ y349)) else (none)))) else (none))) else (none))) else (none)) else (none)) = some r := by first | (rw [hy336]; with_reducible exact H) | (have H2_ := (Option.bind_some _ _).symm.trans H; rw [hy336]; with_reducible exact H2_) | (have H2_ := (Option.bind_some _ _).symm.trans H; with_reducible exact H2_) | with_reducible exact H | (rw [hy336]; exact H) | exact H
   have Ny336 := Aside0.mk hy336
   clear hy336
   by_cases c10 : 0 ≤ x5_1
   rotate_left
   ·
    rw [if_neg c10] at H
    exact absurd H (by simp)
   rw [if_pos c10] at H
   have c10b0 := eq_true c10
   have c10b1 : decide (0 ≤ x5_1) = true := decide_eq_true c10
   clear c10
   by_cases c11 : x5_1 ≤ (l0.length : Int)
   rotate_left
   ·
    rw [if_neg c11] at H
    exact absurd H (by simp)
   rw [if_pos c11] at H
   have c11b0 := eq_true c11
   have c11b1 : decide (x5_1 ≤ (l0.length : Int)) = true := decide_eq_true c11
   clear c11
   obtain ⟨y339, hy339⟩ : ∃ y_ : List ByteArray, y_ = (l0.take (x5_1 : Int).toNat) := ⟨_, rfl⟩
   replace H : (if y336.length + y339.length < 8796093022208 then ((some (y336 ++ y339 : List ByteArray)).bind fun y343 => (if y343.length < 8796093022208 then ((some (y343 ++ [a1] : List ByteArray)).bind fun y346 => ((some (l0.drop (x5_1 : Int).toNat : List ByteArray)).bind fun y349 => (if y346.length + y349.length < 8796093022208 then (some (y346 ++ y349)) else (none)))) else (none))) else (none)) = some r := by first | (rw [hy339]; with_reducible exact H) | (have H2_ := (Option.bind_some _ _).symm.trans H; rw [hy339]; with_reducible exact H2_) | (have H2_ := (Option.bind_some _ _).symm.trans H; with_reducible exact H2_) | with_reducible exact H | (rw [hy339]; exact H) | exact H
   have Ny339 := Aside0.mk hy339
   clear hy339
   by_cases c12 : y336.length + y339.length < 8796093022208
   rotate_left
   ·
    rw [if_neg c12] at H
    exact absurd H (by simp)
   rw [if_pos c12] at H
   have LMc12 := Aside0.mk c12
   clear c12
   obtain ⟨y343, hy343⟩ : ∃ y_ : List ByteArray, y_ = (y336 ++ y339) := ⟨_, rfl⟩
   replace H : (if y343.length < 8796093022208 then ((some (y343 ++ [a1] : List ByteArray)).bind fun y346 => ((some (l0.drop (x5_1 : Int).toNat : List ByteArray)).bind fun y349 => (if y346.length + y349.length < 8796093022208 then (some (y346 ++ y349)) else (none)))) else (none)) = some r := by first | (rw [hy343]; with_reducible exact H) | (have H2_ := (Option.bind_some _ _).symm.trans H; rw [hy343]; with_reducible exact H2_) | (have H2_ := (Option.bind_some _ _).symm.trans H; with_reducible exact H2_) | with_reducible exact H | (rw [hy343]; exact H) | exact H
   have Ny343 := Aside0.mk hy343
   clear hy343
   by_cases c13 : y343.length < 8796093022208
   rotate_left
   ·
    rw [if_neg c13] at H
    exact absurd H (by simp)
   rw [if_pos c13] at H
   have LMc13 := Aside0.mk c13
   clear c13
   obtain ⟨y346, hy346⟩ : ∃ y_ : List ByteArray, y_ = (y343 ++ [a1]) := ⟨_, rfl⟩
   replace H : ((some (l0.drop (x5_1 : Int).toNat : List ByteArray)).bind fun y349 => (if y346.length + y349.length < 8796093022208 then (some (y346 ++ y349)) else (none))) = some r := by first | (rw [hy346]; with_reducible exact H) | (have H2_ := (Option.bind_some _ _).symm.trans H; rw [hy346]; with_reducible exact H2_) | (have H2_ := (Option.bind_some _ _).symm.trans H; with_reducible exact H2_) | with_reducible exact H | (rw [hy346]; exact H) | exact H
   have Ny346 := Aside0.mk hy346
   clear hy346
   have c14b0 := eq_true (of_decide_eq_true (by first | (with_reducible assumption) | assumption) : 0 ≤ x5_1)
   have c15b0 := eq_true (of_decide_eq_true (by first | (with_reducible assumption) | assumption) : x5_1 ≤ (l0.length : Int))
   obtain ⟨y349, hy349⟩ : ∃ y_ : List ByteArray, y_ = (l0.drop (x5_1 : Int).toNat) := ⟨_, rfl⟩
   replace H : (if y346.length + y349.length < 8796093022208 then (some (y346 ++ y349)) else (none)) = some r := by first | (rw [hy349]; with_reducible exact H) | (have H2_ := (Option.bind_some _ _).symm.trans H; rw [hy349]; with_reducible exact H2_) | (have H2_ := (Option.bind_some _ _).symm.trans H; with_reducible exact H2_) | with_reducible exact H | (rw [hy349]; exact H) | exact H
   have Ny349 := Aside0.mk hy349
   clear hy349
   by_cases c16 : y346.length + y349.length < 8796093022208
   rotate_left
   ·
    rw [if_neg c16] at H
    exact absurd H (by simp)
   rw [if_pos c16] at H
   have LMc16 := Aside0.mk c16
   clear c16
   obtain ⟨y353, hy353⟩ : ∃ y_ : List ByteArray, y_ = (y346 ++ y349) := ⟨_, rfl⟩
   replace H : (some y353) = some r := by first | (rw [hy353]; with_reducible exact H) | (have H2_ := (Option.bind_some _ _).symm.trans H; rw [hy353]; with_reducible exact H2_) | (have H2_ := (Option.bind_some _ _).symm.trans H; with_reducible exact H2_) | with_reducible exact H | (rw [hy353]; exact H) | exact H
   have Ny353 := Aside0.mk hy353
   clear hy353
   obtain rfl := Option.some.inj H
   have p334 : 0 ≤ ((ji5) : Int) := of_decide_eq_true (by first | (with_reducible assumption) | assumption)
   have q334 : (ji5) < (l0.length : Int) := of_decide_eq_true (by first | (with_reducible assumption) | assumption)
   obtain ⟨ad334, e334, hx334_0⟩ := Kd.at_string (Kd.R_reads' HO_0.out).2.2 (ji5) p334 q334
   cases e334
   replace p334 := eq_true p334
   replace q334 := eq_true q334
   have p335 : 0 ≤ ((ji5) : Int) := of_decide_eq_true (by first | (with_reducible assumption) | assumption)
   have q335 : (ji5) < (l0.length : Int) := of_decide_eq_true (by first | (with_reducible assumption) | assumption)
   obtain ⟨ad335, e335, hx335_0⟩ := Kd.at_string (Kd.R_reads' HO_0.out).2.2 (ji5) p335 q335
   obtain rfl : ad334 = ad335 := (by injection e335)
   replace p335 := eq_true p335
   replace q335 := eq_true q335
   go_wp2_with (first | ((with_reducible refine gate_dst (N := 34) rfl ?_); refine Kd.R_lit Kd.string _ 9 ?hg (N := 34) ?hd (xs := ([] : List ByteArray)) (inner := []) (ok := fun _ => True) (okp := fun _ => True) ?hr ?hp (fun _ hk => hk) trivial (Below.refl _ _) (Nat.le_refl _) (by simp) ?_; (case hd => rfl); (case hg => rfl); (case hr => first | (go_simp; done) | (go_simp; rfl)); (case hp => exact (Reps.none _ _)); intro v337 w17 ho18 hb hg_ hnew_; clear hg_ hnew_; (first | rw [← Ny336.out] at ho18 | (simp only [Int.reduceToNat] at ho18; rw [← Ny336.out] at ho18)); have HO338 := Aside0.mk (Kd.R_lower (Kd.R_new' (Kd.R_newM (M := fun k_ => (P0_ k_ ∨ w.heap.size ≤ k_)) ho18 (by first | exact HK.out.1 | exact (show Kept w _ (fun k_ => P0_ k_) from by repeat (first | (with_reducible first | exact HK.out | apply Kept.alloc | apply Kept.drewN | apply Kept.drew) | exact HK.out)).1) (fun k_ h_ => .inr h_)) (Kd.R_lt (qR HO_0.out))) (below_size (qB HB.out))); replace HO_0 := Aside0.mk (Kd.R_elder' (qR HO_0.out) (Kd.R_base ho18) hb); replace HK := Aside0.mk (Kept.below (S := (fun k_ => P0_ k_)) (by repeat (first | (with_reducible first | exact HK.out | apply Kept.alloc | apply Kept.drewN | apply Kept.drew) | exact HK.out)) hb); replace HB := Aside0.mk (below_step (qB HB.out) hb); clear hb ho18; have q19 : (x5_1 : Int) ≤ ((l0.length : Int) : Int) := of_decide_eq_true (by first | (with_reducible assumption) | assumption); obtain ⟨i019, hi019, _, hsz19, _⟩ := info_parts info9; have hroom19 : l0.length ≤ co3 := (Kd.R_reads' HO_0.out).2.1; have hC19 : Kd.C Kd.string _ (some ad334) l0.length l0 := (Kd.R_reads' HO_0.out).2.2; have hcut19 := cut_to (P := Tryz.prog) 26 9 .i64 Tryz.underlying26 hi019 (some ad334) l0.length co3 x5_1 (of_decide_eq_true (by first | (with_reducible assumption) | assumption)) q19 hroom19; have hr19 := Kd.C_take (m := (x5_1 : Int).toNat) hC19 (by omega); have hy19 : y339.length = (x5_1 : Int).toNat := (by rw [Ny339.out, List.length_take]; omega); rw [← Ny339.out] at hr19; rw [← hy19] at hcut19; have HR342 := Aside0.mk hr19; have HC342 := Aside0.mk (show y339.length ≤ co3 from by omega); clear hr19 hC19 hroom19 hi019 hsz19; have KY19 := Aside0.mk hy19; clear hy19; have KL19 := Aside0.mk (show (x5_1 : Int).toNat ≤ l0.length from by omega); replace q19 := eq_true q19) | ((with_reducible refine gate_builtin (b := .append) (xs := #[.tmp 34, .tmp 37]) rfl ?_); at_builtin; refine Kd.R_append_rows Kd.string (w0 := w0) w0.heap.size rfl (.tmp 34) (.tmp 37) 26 9 (.string ⟨#[]⟩) 16 rfl Tryz.underlying26 info9 rfl (by decide) (by omega) v337 y336 y339 _ _ _ (fun k_ => (P0_ k_ ∨ w.heap.size ≤ k_) ∧ some k_ ≠ (.slice (some ad334) l0.length co3 : Value).ownBlock) (fun _ => False) rfl rfl ?aO ?aR (fun _ _ h => h) (fun _ h => h.elim) ?aF ?aB ?aS ?aL ?_; (case aR => repeat (first | exact (by repeat (first | (with_reducible exact HR342.out) | (with_reducible refine Kd.C_alloc ?_ _) | (with_reducible refine Kd.C_drewN ?_ _) | (with_reducible refine Kd.C_drew ?_) | exact HR342.out)) | (with_reducible refine Kd.C_alloc ?_ _) | (with_reducible refine Kd.C_drewN ?_ _) | (with_reducible refine Kd.C_drew ?_))); (case aB => exact (qB HB.out)); (case aF => exact (fun k_ hk => ⟨(.inr (Nat.le_trans (by first | exact HK.out.1 | exact (show Kept w _ (fun k_ => P0_ k_) from by repeat (first | (with_reducible first | exact HK.out | apply Kept.alloc | apply Kept.drewN | apply Kept.drew) | exact HK.out)).1) hk)), Kd.fresh' (Kd.R_lt (qR HO_0.out)) k_ hk⟩)); (case aO => exact (by (with_reducible repeat (first | apply Kd.R_alloc | apply Kd.R_drewN | apply Kd.R_drew)); exact Kd.R_mono HO338.out (fun _ hk => ⟨hk.1.1, hk.2⟩))); (case aS => exact (below_size (qB HB.out))); (case aL => have := LMc12.out; omega); intro v344 w20 ho hb hg hat; rw [← Ny343.out] at ho; replace HB := Aside0.mk (hb); replace HK := Aside0.mk (Kept.of_grown (S := (fun k_ => P0_ k_)) hg (by repeat (first | (with_reducible first | exact HK.out | apply Kept.alloc | apply Kept.drewN | apply Kept.drew) | exact HK.out)) (fun k_ e_ => (HO338.out.1 k_ e_).1.1)); replace HR342 := Aside0.mk ((show Kd.C Kd.string w20 (some ad334) y339.length y339 from by rw [Ny339.out]; exact Kd.C_take (m := (x5_1 : Int).toNat) ((Kd.R_reads' (Kd.R_after (ok := (fun k_ => (P0_ k_ ∨ w.heap.size ≤ k_))) (qR HO_0.out) hg hat)).2.2) KL19.out)); replace HO_0 := Aside0.mk (Kd.R_after (ok := (fun k_ => (P0_ k_ ∨ w.heap.size ≤ k_))) (qR HO_0.out) hg hat); have HO345 := Aside0.mk (ho); clear HO338; clear ho hb hg hat) | ((with_reducible refine gate_builtin (b := .append) (xs := #[.tmp 38, .tmp 40]) rfl ?_); at_builtin; refine Kd.R_append Kd.string (w0 := w0) w0.heap.size rfl (.tmp 38) (.tmp 40) 26 9 (.string ⟨#[]⟩) 16 rfl Tryz.underlying26 info9 rfl (by decide) (by omega) v344 y343 a1 [.string a1] (fun k_ => (P0_ k_ ∨ w.heap.size ≤ k_) ∧ some k_ ≠ (.slice (some ad334) l0.length co3 : Value).ownBlock) (fun _ => False) rfl rfl ?aP (fun _ hk => hk.elim) ?aF ?aO ?aB ?aS ?aL ?_; (case aP => exact rfl); (case aB => exact (qB HB.out)); (case aF => exact (fun k_ hk => ⟨(.inr (Nat.le_trans (by first | exact HK.out.1 | exact (show Kept w _ (fun k_ => P0_ k_) from by repeat (first | (with_reducible first | exact HK.out | apply Kept.alloc | apply Kept.drewN | apply Kept.drew) | exact HK.out)).1) hk)), Kd.fresh' (Kd.R_lt (qR HO_0.out)) k_ hk⟩)); (case aO => exact (qR HO345.out)); (case aS => exact (below_size (qB HB.out))); (case aL => have := LMc13.out; omega); intro v347 w21 ho hb hg hat; rw [← Ny346.out] at ho; replace HB := Aside0.mk (hb); replace HK := Aside0.mk (Kept.of_grown (S := (fun k_ => P0_ k_)) hg (by repeat (first | (with_reducible first | exact HK.out | apply Kept.alloc | apply Kept.drewN | apply Kept.drew) | exact HK.out)) (fun k_ e_ => (HO345.out.1 k_ e_).1)); replace HR342 := Aside0.mk ((show Kd.C Kd.string w21 (some ad334) y339.length y339 from by rw [Ny339.out]; exact Kd.C_take (m := (x5_1 : Int).toNat) ((Kd.R_reads' (Kd.R_after (ok := (fun k_ => (P0_ k_ ∨ w.heap.size ≤ k_))) (qR HO_0.out) hg hat)).2.2) KL19.out)); replace HO_0 := Aside0.mk (Kd.R_after (ok := (fun k_ => (P0_ k_ ∨ w.heap.size ≤ k_))) (qR HO_0.out) hg hat); have HO348 := Aside0.mk (ho); clear HO345; clear ho hb hg hat; have q22 : (x5_1 : Int) ≤ ((l0.length : Int) : Int) := of_decide_eq_true (by first | (with_reducible assumption) | assumption); obtain ⟨i022, hi022, _, hsz22, _⟩ := info_parts info9; have hroom22 : l0.length ≤ co3 := (Kd.R_reads' HO_0.out).2.1; have hC22 : Kd.C Kd.string _ (some ad334) l0.length l0 := (Kd.R_reads' HO_0.out).2.2; have q022 : (0 : Int) ≤ (x5_1 : Int) := of_decide_eq_true (by first | (with_reducible assumption) | assumption); have hcut22 := cut_from (P := Tryz.prog) 26 9 .i64 Tryz.underlying26 hi022 1 hsz22 (some ad334) l0.length co3 x5_1 q022 q22; have hr22 := Kd.C_drop (m := (x5_1 : Int).toNat) (c := co3) hC22 (by omega) hroom22; obtain ⟨A22, hA22⟩ : ∃ A1, A1 = (if co3 = (x5_1 : Int).toNat then (some ad334) else ((some ad334) : Option Addr).map (·.add ((x5_1 : Int).toNat * 1))) := ⟨_, rfl⟩; obtain ⟨c22, hc22⟩ : ∃ c1, c1 = co3 - (x5_1 : Int).toNat := ⟨_, rfl⟩; have hy22 : y349.length = l0.length - (x5_1 : Int).toNat := (by rw [Ny349.out, List.length_drop] <;> omega); rw [show (l0).drop (x5_1 : Int).toNat = y349 from Ny349.out.symm] at hr22; replace hr22 : Kd.C Kd.string _ A22 y349.length y349 := (by rw [hA22]; exact hr22); rw [← hy22, ← hA22, ← hc22] at hcut22; have HR352 := Aside0.mk hr22; have HC352 := Aside0.mk (show y349.length ≤ c22 from by rw [hy22, hc22]; exact Nat.sub_le_sub_right hroom22 _); clear hr22 hC22 hroom22 hi022 hsz22 hc22; have KY22 := Aside0.mk hy22; have KA22 := Aside0.mk hA22; clear hy22 hA22; have KL22 := Aside0.mk (show (x5_1 : Int).toNat ≤ l0.length from by omega); replace q22 := eq_true q22) | ((with_reducible refine gate_builtin (b := .append) (xs := #[.tmp 42, .tmp 45]) rfl ?_); at_builtin; refine Kd.R_append_rows Kd.string (w0 := w0) w0.heap.size rfl (.tmp 42) (.tmp 45) 26 9 (.string ⟨#[]⟩) 16 rfl Tryz.underlying26 info9 rfl (by decide) (by omega) v347 y346 y349 _ _ _ (fun k_ => (P0_ k_ ∨ w.heap.size ≤ k_) ∧ some k_ ≠ (.slice (some ad334) l0.length co3 : Value).ownBlock) (fun _ => False) rfl rfl ?aO ?aR (fun _ _ h => h) (fun _ h => h.elim) ?aF ?aB ?aS ?aL ?_; (case aR => repeat (first | exact (by repeat (first | (with_reducible exact HR352.out) | (with_reducible refine Kd.C_alloc ?_ _) | (with_reducible refine Kd.C_drewN ?_ _) | (with_reducible refine Kd.C_drew ?_) | exact HR352.out)) | (with_reducible refine Kd.C_alloc ?_ _) | (with_reducible refine Kd.C_drewN ?_ _) | (with_reducible refine Kd.C_drew ?_))); (case aB => exact (qB HB.out)); (case aF => exact (fun k_ hk => ⟨(.inr (Nat.le_trans (by first | exact HK.out.1 | exact (show Kept w _ (fun k_ => P0_ k_) from by repeat (first | (with_reducible first | exact HK.out | apply Kept.alloc | apply Kept.drewN | apply Kept.drew) | exact HK.out)).1) hk)), Kd.fresh' (Kd.R_lt (qR HO_0.out)) k_ hk⟩)); (case aO => exact (qR HO348.out)); (case aS => exact (below_size (qB HB.out))); (case aL => have := LMc16.out; omega); intro v354 w23 ho hb hg hat; rw [← Ny353.out] at ho; replace HB := Aside0.mk (hb); replace HK := Aside0.mk (Kept.of_grown (S := (fun k_ => P0_ k_)) hg (by repeat (first | (with_reducible first | exact HK.out | apply Kept.alloc | apply Kept.drewN | apply Kept.drew) | exact HK.out)) (fun k_ e_ => (HO348.out.1 k_ e_).1)); replace HR342 := Aside0.mk ((show Kd.C Kd.string w23 (some ad334) y339.length y339 from by rw [Ny339.out]; exact Kd.C_take (m := (x5_1 : Int).toNat) ((Kd.R_reads' (Kd.R_after (ok := (fun k_ => (P0_ k_ ∨ w.heap.size ≤ k_))) (qR HO_0.out) hg hat)).2.2) KL19.out)); replace HR352 := Aside0.mk ((show Kd.C Kd.string w23 A22 y349.length y349 from by rw [Ny349.out, KA22.out]; exact Kd.C_drop (m := (x5_1 : Int).toNat) (c := co3) ((Kd.R_reads' (Kd.R_after (ok := (fun k_ => (P0_ k_ ∨ w.heap.size ≤ k_))) (qR HO_0.out) hg hat)).2.2) KL22.out ((Kd.R_reads' (Kd.R_after (ok := (fun k_ => (P0_ k_ ∨ w.heap.size ≤ k_))) (qR HO_0.out) hg hat)).2.1))); replace HO_0 := Aside0.mk (Kd.R_after (ok := (fun k_ => (P0_ k_ ∨ w.heap.size ≤ k_))) (qR HO_0.out) hg hat); have HO355 := Aside0.mk (ho); clear HO348; clear ho hb hg hat))
   go_ret
   exact ⟨_, by first | rfl | (simp [errW_none, errW_some] <;> rfl) | (simp only [← hji5]; first | rfl | (simp [errW_none, errW_some] <;> rfl)) | (simp [*, errW_none, errW_some] <;> rfl), by (with_reducible repeat (first | apply Kd.R_alloc | apply Kd.R_drewN | apply Kd.R_drew)); exact Kd.R_mono HO355.out (fun _ hk => hk.1), qB HB.out, by repeat (first | (with_reducible first | exact HK.out | apply Kept.alloc | apply Kept.drewN | apply Kept.drew) | exact HK.out)⟩
end Go.Proofs.YtgfnkdoennbipaaGreat.PF

namespace Go.Proofs.YtgfnkdoennbipaaGreat.PF
open Go.RowKit Go.Proofs.YtgfnkdoennbipaaGreatW.PrintWords Go.Proofs.YtgfnkdoennbipaaGreatW.PrintLast Go.Proofs.YtgfnkdoennbipaaGreatW.PrintMore
attribute [local go_sem] max2_int min2_int max_two min_two max_three min_three max_four min_four   -- for this text's walks alone
set_option linter.unusedVariables false
set_option linter.unusedSimpArgs false

/-! ### spec_l01Factors: function 45 -/
def spec_l01Factors.l0 : Nat → ByteArray → Int → List ByteArray → Int → Option (List ByteArray)
 | 0, _, _, _, _ => none
 | k + 1, x0, x1, x5, x6 => if (wrap64 (x6 + x1)) ≤ (x0.size : Int) then (if 0 ≤ x6 then (if x6 ≤ (wrap64 (x6 + x1)) then ((spec_l01Put.f k x5 (x0.extract (x6 : Int).toNat ((wrap64 (x6 + x1)) : Int).toNat)).bind fun t379 => (spec_l01Factors.l0 k x0 x1 t379 (wrap64 (x6 + 1)))) else (none)) else (none)) else (some x5)
def spec_l01Factors.f (k : Nat) (a0 : ByteArray) (a1 : Int) : Option (List ByteArray) := spec_l01Factors.l0 k a0 a1 (([] : List ByteArray)) 0
theorem spec_l01Factors.mono_l : ∀ k, (∀ y0 y1 y2 y3, LeO (spec_l01Factors.l0 k y0 y1 y2 y3) (spec_l01Factors.l0 (k + 1) y0 y1 y2 y3))
 | 0 => fun _ _ _ _ r h => by simp [spec_l01Factors.l0] at h
 | k + 1 => by
  have ih0 := spec_l01Factors.mono_l k
  ·
   intro y0 y1 y2 y3
   unfold spec_l01Factors.l0
   with_reducible repeat' first
   | exact ih0 _ _ _ _
   | exact spec_l01Put.mono _ _ _
   | exact LeO.refl _
   | exact LeO.none _
   | refine LeO.ite ?_ ?_
   | refine LeO.bind ?_ (fun _ => ?_)
theorem spec_l01Factors.mono : ∀ a0 a1 k, LeO (spec_l01Factors.f k a0 a1) (spec_l01Factors.f (k + 1) a0 a1) := by
 intro a0 a1 k
 have ih0 := spec_l01Factors.mono_l k
 unfold spec_l01Factors.f
 with_reducible repeat' first
   | exact ih0 _ _ _ _
   | exact spec_l01Put.mono _ _ _
   | exact LeO.refl _
   | exact LeO.none _
   | refine LeO.ite ?_ ?_
   | refine LeO.bind ?_ (fun _ => ?_)
set_option maxHeartbeats 8000000 in
set_option maxRecDepth 100000 in
theorem spec_l01Factors.calls (k : Nat) (a0 : ByteArray) (a1 : Int) (r : List ByteArray) (w : World) (h : spec_l01Factors.f k a0 a1 = some r) :
  Calls Tryz.prog 45 #[.string a0, .int .i64 a1] w fun e w' => ∃ v0_ : Value, e = .returned (v0_) ∧ Kd.R Kd.string 9 w' w.heap.size (fun _ => True) v0_ r ∧ Below w.heap.size w w' := by
 have HB := Aside0.mk (Below.refl w.heap.size w)
 have H : (spec_l01Factors.l0 k a0 a1 (([] : List ByteArray)) 0) = some r := h
 clear h
 obtain ⟨y376, hy376⟩ : ∃ y_ : List ByteArray, y_ = (([] : List ByteArray)) := ⟨_, rfl⟩
 replace H : (spec_l01Factors.l0 k a0 a1 y376 0) = some r := by first | (rw [hy376]; with_reducible exact H) | (have H2_ := (Option.bind_some _ _).symm.trans H; rw [hy376]; with_reducible exact H2_) | (have H2_ := (Option.bind_some _ _).symm.trans H; with_reducible exact H2_) | with_reducible exact H | (rw [hy376]; exact H) | exact H
 have Ny376 := Aside0.mk hy376
 clear hy376
 have H' := Aside0.mk H
 clear H
 go_enter Tryz.func45, Tryz.ntmps45
 go_wp2_with (first | ((with_reducible refine gate_dst (N := 7) rfl ?_); refine Kd.R_lit Kd.string _ 9 ?hg (N := 7) ?hd (xs := ([] : List ByteArray)) (inner := []) (ok := fun _ => True) (okp := fun _ => True) ?hr ?hp (fun _ hk => hk) trivial (Below.refl _ _) (Nat.le_refl _) (by simp) ?_; (case hd => rfl); (case hg => rfl); (case hr => first | (go_simp; done) | (go_simp; rfl)); (case hp => exact (Reps.none _ _)); intro v377 w3 ho4 hb hg_ hnew_; clear hg_ hnew_; (first | rw [← Ny376.out] at ho4 | (simp only [Int.reduceToNat] at ho4; rw [← Ny376.out] at ho4)); have HO378 := Aside0.mk (Kd.R_lower ho4 (below_size (qB HB.out))); replace HB := Aside0.mk (below_step (qB HB.out) hb); clear hb ho4))
 go_loopg [5, 6] k (fun kq v5 v6 w' => ∃ (x5_1 : List ByteArray) (x6_1 : Int), v6 = .int .i64 x6_1 ∧ Aside0 (spec_l01Factors.l0 kq a0 a1 x5_1 x6_1 = some r) ∧ Aside0 (kq ≤ k) ∧ Aside0 (Kd.R Kd.string 9 w' w.heap.size (fun _ => True) v5 x5_1) ∧ Aside0 (Below w.heap.size w w'))
 case atStart => exact ⟨(y376), (0), qF, H', ⟨Nat.le_refl _⟩, ⟨qR HO378.out⟩, ⟨qB HB.out⟩⟩
 case round =>
  clear H'
  obtain ⟨x5_1, x6_1, rfl, HA, HK1, HO_5, HB⟩ := hrel
  cases gk with
  | zero => exact absurd HA.out (by simp [spec_l01Factors.l0])
  | succ k1 =>
   have H := HA.out
   clear HA
   simp only [spec_l01Factors.l0] at H
   by_cases c5 : (wrap64 (x6_1 + a1)) ≤ (a0.size : Int)
   rotate_left
   ·
    rw [if_neg c5] at H
    have c5b0 : decide ((wrap64 (x6_1 + a1)) ≤ (a0.size : Int)) = false := decide_eq_false c5
    clear c5
    obtain rfl := Option.some.inj H
    go_wp2
    go_ret
    exact ⟨_, qE, qR HO_5.out, qB HB.out⟩

   rw [if_pos c5] at H
   have c5b0 : decide ((wrap64 (x6_1 + a1)) ≤ (a0.size : Int)) = true := decide_eq_true c5
   clear c5
   by_cases c6 : 0 ≤ x6_1
   rotate_left
   ·
    rw [if_neg c6] at H
    exact absurd H (by simp)
   rw [if_pos c6] at H
   have c6b0 := eq_true c6
   have c6b1 : decide (0 ≤ x6_1) = true := decide_eq_true c6
   clear c6
   by_cases c7 : x6_1 ≤ (wrap64 (x6_1 + a1))
   rotate_left
   ·
    rw [if_neg c7] at H
    exact absurd H (by simp)
   rw [if_pos c7] at H
   have c7b0 := eq_true c7
   have c7b1 : decide (x6_1 ≤ (wrap64 (x6_1 + a1))) = true := decide_eq_true c7
   have c8b0 := eq_true (of_decide_eq_true (by first | (with_reducible assumption) | assumption) : (wrap64 (x6_1 + a1)) ≤ (a0.size : Int))
   replace H := qN H
   obtain ⟨t379, A9, H⟩ := H
   try dsimp only at H
   have H' := Aside0.mk H
   clear H
   obtain ⟨Ao10, co10, eo10⟩ := Kd.R_slice HO_5.out
   subst eo10
   go_wp2_with (first | ((with_reducible refine gate_callee (f := 67) rfl ?_); refine goesL_ (some 23) rfl rfl Tryz.func67 (by kernel_rfl) rfl #[.slice Ao10 x5_1.length co10, .string (a0.extract (x6_1 : Int).toNat ((wrap64 (x6_1 + a1)) : Int).toNat)] rfl qV ?_; (with_reducible refine (spec_l01Put.calls k1 (fun k_ => some k_ = (.slice Ao10 x5_1.length co10 : Value).ownBlock) (.slice Ao10 x5_1.length co10) x5_1 (a0.extract (x6_1 : Int).toNat ((wrap64 (x6_1 + a1)) : Int).toNat) t379 w _ ?side1 ?side2 A9.out).mono ?_); (case side1 => exact qB HB.out); (case side2 => exact Kd.R_tight rfl HO_5.out); rintro e w11 ⟨v380, rfl, ho0, hb, hkp⟩; refine ⟨_, rfl, ?_⟩; have HO381 := Aside0.mk (Kd.R_mono (ok' := fun k_ => True) ho0 (fun k_ hk_ => trivial)); replace HB := Aside0.mk (hb); clear HO_5))
   go_roundg k1
   case measure => have := HK1.out; omega
   case rel => exact ⟨(t379), (wrap64 (x6_1 + 1)), qF, H', ⟨by have := HK1.out; omega⟩, ⟨qR HO381.out⟩, ⟨qB HB.out⟩⟩
end Go.Proofs.YtgfnkdoennbipaaGreat.PF

namespace Go.Proofs.YtgfnkdoennbipaaGreat.PF
open Go.RowKit Go.Proofs.YtgfnkdoennbipaaGreatW.PrintWords Go.Proofs.YtgfnkdoennbipaaGreatW.PrintLast Go.Proofs.YtgfnkdoennbipaaGreatW.PrintMore
attribute [local go_sem] max2_int min2_int max_two min_two max_three min_three max_four min_four   -- for this text's walks alone
set_option linter.unusedVariables false
set_option linter.unusedSimpArgs false

/-! ### spec_l05Special: function 34 -/
mutual
def spec_l05Special.l0 : Nat → Int → Bool → List ByteArray → List ByteArray → List ByteArray → Int → Option (List ByteArray)
 | 0, _, _, _, _, _, _ => none
 | k + 1, x1, x2, x7, x8, x9, x10 => if x10 < (x7.length : Int) then (if x2 = true then (if 0 ≤ x10 then (if 0 ≤ x1 then (if x1 ≤ ((rdOf ByteArray.empty x7 x10).size : Int) then (if x9.length < 8796093022208 then (spec_l05Special.l0 k x1 x2 x7 x8 (x9 ++ [(rdOf ByteArray.empty x7 x10).extract 0 (x1 : Int).toNat]) (wrap64 (x10 + 1))) else (none)) else (none)) else (none)) else (none)) else (if 0 ≤ x10 then (if 1 ≤ ((rdOf ByteArray.empty x7 x10).size : Int) then (if x9.length < 8796093022208 then (spec_l05Special.l0 k x1 x2 x7 x8 (x9 ++ [(rdOf ByteArray.empty x7 x10).extract 1 (rdOf ByteArray.empty x7 x10).size]) (wrap64 (x10 + 1))) else (none)) else (none)) else (none))) else (spec_l05Special.l1 k x8 x9 0)
def spec_l05Special.l1 : Nat → List ByteArray → List ByteArray → Int → Option (List ByteArray)
 | 0, _, _, _ => none
 | k + 1, x8, x9, x11 => if x11 < (x9.length : Int) then (spec_l05Special.l2 k x8 x9 x11 0) else (some x8)
def spec_l05Special.l2 : Nat → List ByteArray → List ByteArray → Int → Int → Option (List ByteArray)
 | 0, _, _, _, _ => none
 | k + 1, x8, x9, x11, x12 => if x12 < x11 then (if 0 ≤ x12 then (if x12 < (x9.length : Int) then (if 0 ≤ x11 then (if x11 < (x9.length : Int) then (if (rdOf ByteArray.empty x9 x12).toList = (rdOf ByteArray.empty x9 x11).toList then ((spec_l01Put.f k x8 (rdOf ByteArray.empty x9 x11)).bind fun t402 => (spec_l05Special.l2 k t402 x9 x11 (wrap64 (x12 + 1)))) else (spec_l05Special.l2 k x8 x9 x11 (wrap64 (x12 + 1)))) else (none)) else (none)) else (none)) else (none)) else (spec_l05Special.l1 k x8 x9 (wrap64 (x11 + 1)))
end
def spec_l05Special.f (k : Nat) (a0 : ByteArray) (a1 : Int) (a2 : Bool) : Option (List ByteArray) := (spec_l01Factors.f k a0 (wrap64 (a1 + 1))).bind fun t382 => (spec_l05Special.l0 k a1 a2 t382 (([] : List ByteArray)) (([] : List ByteArray)) 0)
theorem spec_l05Special.mono_l : ∀ k, (∀ y0 y1 y2 y3 y4 y5, LeO (spec_l05Special.l0 k y0 y1 y2 y3 y4 y5) (spec_l05Special.l0 (k + 1) y0 y1 y2 y3 y4 y5)) ∧ (∀ y0 y1 y2, LeO (spec_l05Special.l1 k y0 y1 y2) (spec_l05Special.l1 (k + 1) y0 y1 y2)) ∧ (∀ y0 y1 y2 y3, LeO (spec_l05Special.l2 k y0 y1 y2 y3) (spec_l05Special.l2 (k + 1) y0 y1 y2 y3))
 | 0 => ⟨fun _ _ _ _ _ _ r h => by simp [spec_l05Special.l0] at h, fun _ _ _ r h => by simp [spec_l05Special.l1] at h, fun _ _ _ _ r h => by simp [spec_l05Special.l2] at h⟩
 | k + 1 => by
  obtain ⟨ih0, ih1, ih2⟩ := spec_l05Special.mono_l k
  refine ⟨?_, ?_, ?_⟩
  all_goals intros
  all_goals first | unfold spec_l05Special.l0 | unfold spec_l05Special.l1 | unfold spec_l05Special.l2
  all_goals with_reducible repeat' first
  | exact ih0 _ _ _ _ _ _
  | exact ih1 _ _ _
  | exact ih2 _ _ _ _
  | exact spec_l01Factors.mono _ _ _
  | exact spec_l01Put.mono _ _ _
  | exact LeO.refl _
  | exact LeO.none _
  | refine LeO.ite ?_ ?_
  | refine LeO.bind ?_ (fun _ => ?_)
theorem spec_l05Special.mono : ∀ a0 a1 a2 k, LeO (spec_l05Special.f k a0 a1 a2) (spec_l05Special.f (k + 1) a0 a1 a2) := by
 intro a0 a1 a2 k
 obtain ⟨ih0, ih1, ih2⟩ := spec_l05Special.mono_l k
 unfold spec_l05Special.f
 with_reducible repeat' first
   | exact ih0 _ _ _ _ _ _
   | exact ih1 _ _ _
   | exact ih2 _ _ _ _
   | exact spec_l01Factors.mono _ _ _
   | exact spec_l01Put.mono _ _ _
   | exact LeO.refl _
   | exact LeO.none _
   | refine LeO.ite ?_ ?_
   | refine LeO.bind ?_ (fun _ => ?_)
set_option maxHeartbeats 8000000 in
set_option maxRecDepth 100000 in
theorem spec_l05Special.calls (k : Nat) (a0 : ByteArray) (a1 : Int) (a2 : Bool) (r : List ByteArray) (w : World) (h : spec_l05Special.f k a0 a1 a2 = some r) :
  Calls Tryz.prog 34 #[.string a0, .int .i64 a1, .bool a2] w fun e w' => ∃ v0_ : Value, e = .returned (v0_) ∧ Kd.R Kd.string 9 w' w.heap.size (fun _ => True) v0_ r ∧ Below w.heap.size w w' := by
 have HB := Aside0.mk (Below.refl w.heap.size w)
 have H : ((spec_l01Factors.f k a0 (wrap64 (a1 + 1))).bind fun t382 => (spec_l05Special.l0 k a1 a2 t382 (([] : List ByteArray)) (([] : List ByteArray)) 0)) = some r := h
 clear h
 replace H := qN H
 obtain ⟨t382, A4, H⟩ := H
 try dsimp only at H
 obtain ⟨y385, hy385⟩ : ∃ y_ : List ByteArray, y_ = (([] : List ByteArray)) := ⟨_, rfl⟩
 replace H : (spec_l05Special.l0 k a1 a2 t382 y385 (([] : List ByteArray)) 0) = some r := by first | (rw [hy385]; with_reducible exact H) | (have H2_ := (Option.bind_some _ _).symm.trans H; rw [hy385]; with_reducible exact H2_) | (have H2_ := (Option.bind_some _ _).symm.trans H; with_reducible exact H2_) | with_reducible exact H | (rw [hy385]; exact H) | exact H
 have Ny385 := Aside0.mk hy385
 clear hy385
 obtain ⟨y388, hy388⟩ : ∃ y_ : List ByteArray, y_ = (([] : List ByteArray)) := ⟨_, rfl⟩
 replace H : (spec_l05Special.l0 k a1 a2 t382 y385 y388 0) = some r := by first | (rw [hy388]; with_reducible exact H) | (have H2_ := (Option.bind_some _ _).symm.trans H; rw [hy388]; with_reducible exact H2_) | (have H2_ := (Option.bind_some _ _).symm.trans H; with_reducible exact H2_) | with_reducible exact H | (rw [hy388]; exact H) | exact H
 have Ny388 := Aside0.mk hy388
 clear hy388
 have H' := Aside0.mk H
 clear H
 go_enter Tryz.func34, Tryz.ntmps34
 go_wp2_with (first | (go_at_call 45; (with_reducible refine (spec_l01Factors.calls k a0 (wrap64 (a1 + 1)) t382 _ A4.out).mono ?_); rintro e w5 ⟨v383, rfl, ho0, hb⟩; have HO384 := Aside0.mk (Kd.R_lower ho0 (below_size (qB HB.out))); replace HB := Aside0.mk (below_step (qB HB.out) hb)) | ((with_reducible refine gate_dst (N := 17) rfl ?_); refine Kd.R_lit Kd.string _ 9 ?hg (N := 17) ?hd (xs := ([] : List ByteArray)) (inner := []) (ok := fun _ => True) (okp := fun _ => True) ?hr ?hp (fun _ hk => hk) trivial (Below.refl _ _) (Nat.le_refl _) (by simp) ?_; (case hd => rfl); (case hg => rfl); (case hr => first | (go_simp; done) | (go_simp; rfl)); (case hp => exact (Reps.none _ _)); intro v386 w6 ho7 hb hg_ hnew_; clear hg_ hnew_; (first | rw [← Ny385.out] at ho7 | (simp only [Int.reduceToNat] at ho7; rw [← Ny385.out] at ho7)); have HO387 := Aside0.mk (Kd.R_lower (Kd.R_new' ho7 (Kd.R_lt (qR HO384.out))) (below_size (qB HB.out))); replace HO384 := Aside0.mk (Kd.R_elder' (qR HO384.out) (Kd.R_base ho7) hb); replace HB := Aside0.mk (below_step (qB HB.out) hb); clear hb ho7) | ((with_reducible refine gate_dst (N := 18) rfl ?_); refine Kd.R_lit Kd.string _ 9 ?hg (N := 18) ?hd (xs := ([] : List ByteArray)) (inner := []) (ok := fun _ => True) (okp := fun _ => True) ?hr ?hp (fun _ hk => hk) trivial (Below.refl _ _) (Nat.le_refl _) (by simp) ?_; (case hd => rfl); (case hg => rfl); (case hr => first | (go_simp; done) | (go_simp; rfl)); (case hp => exact (Reps.none _ _)); intro v389 w8 ho9 hb hg_ hnew_; clear hg_ hnew_; (first | rw [← Ny388.out] at ho9 | (simp only [Int.reduceToNat] at ho9; rw [← Ny388.out] at ho9)); have HO390 := Aside0.mk (Kd.R_lower (Kd.R_new' (Kd.R_new' ho9 (Kd.R_lt (qR HO384.out))) (Kd.R_lt (qR HO387.out))) (below_size (qB HB.out))); replace HO384 := Aside0.mk (Kd.R_elder' (qR HO384.out) (Kd.R_base ho9) hb); replace HO387 := Aside0.mk (Kd.R_elder' (qR HO387.out) (Kd.R_base ho9) hb); replace HB := Aside0.mk (below_step (qB HB.out) hb); clear hb ho9))
 repeat (go_quiet (first | (go_at_call 45; (with_reducible refine (spec_l01Factors.calls k a0 (wrap64 (a1 + 1)) t382 _ A4.out).mono ?_); rintro e w5 ⟨v383, rfl, ho0, hb⟩; have HO384 := Aside0.mk (Kd.R_lower ho0 (below_size (qB HB.out))); replace HB := Aside0.mk (below_step (qB HB.out) hb)) | ((with_reducible refine gate_dst (N := 17) rfl ?_); refine Kd.R_lit Kd.string _ 9 ?hg (N := 17) ?hd (xs := ([] : List ByteArray)) (inner := []) (ok := fun _ => True) (okp := fun _ => True) ?hr ?hp (fun _ hk => hk) trivial (Below.refl _ _) (Nat.le_refl _) (by simp) ?_; (case hd => rfl); (case hg => rfl); (case hr => first | (go_simp; done) | (go_simp; rfl)); (case hp => exact (Reps.none _ _)); intro v386 w6 ho7 hb hg_ hnew_; clear hg_ hnew_; (first | rw [← Ny385.out] at ho7 | (simp only [Int.reduceToNat] at ho7; rw [← Ny385.out] at ho7)); have HO387 := Aside0.mk (Kd.R_lower (Kd.R_new' ho7 (Kd.R_lt (qR HO384.out))) (below_size (qB HB.out))); replace HO384 := Aside0.mk (Kd.R_elder' (qR HO384.out) (Kd.R_base ho7) hb); replace HB := Aside0.mk (below_step (qB HB.out) hb); clear hb ho7) | ((with_reducible refine gate_dst (N := 18) rfl ?_); refine Kd.R_lit Kd.string _ 9 ?hg (N := 18) ?hd (xs := ([] : List ByteArray)) (inner := []) (ok := fun _ => True) (okp := fun _ => True) ?hr ?hp (fun _ hk => hk) trivial (Below.refl _ _) (Nat.le_refl _) (by simp) ?_; (case hd => rfl); (case hg => rfl); (case hr => first | (go_simp; done) | (go_simp; rfl)); (case hp => exact (Reps.none _ _)); intro v389 w8 ho9 hb hg_ hnew_; clear hg_ hnew_; (first | rw [← Ny388.out] at ho9 | (simp only [Int.reduceToNat] at ho9; rw [← Ny388.out] at ho9)); have HO390 := Aside0.mk (Kd.R_lower (Kd.R_new' (Kd.R_new' ho9 (Kd.R_lt (qR HO384.out))) (Kd.R_lt (qR HO387.out))) (below_size (qB HB.out))); replace HO384 := Aside0.mk (Kd.R_elder' (qR HO384.out) (Kd.R_base ho9) hb); replace HO387 := Aside0.mk (Kd.R_elder' (qR HO387.out) (Kd.R_base ho9) hb); replace HB := Aside0.mk (below_step (qB HB.out) hb); clear hb ho9)); try go_wp2_with (first | (go_at_call 45; (with_reducible refine (spec_l01Factors.calls k a0 (wrap64 (a1 + 1)) t382 _ A4.out).mono ?_); rintro e w5 ⟨v383, rfl, ho0, hb⟩; have HO384 := Aside0.mk (Kd.R_lower ho0 (below_size (qB HB.out))); replace HB := Aside0.mk (below_step (qB HB.out) hb)) | ((with_reducible refine gate_dst (N := 17) rfl ?_); refine Kd.R_lit Kd.string _ 9 ?hg (N := 17) ?hd (xs := ([] : List ByteArray)) (inner := []) (ok := fun _ => True) (okp := fun _ => True) ?hr ?hp (fun _ hk => hk) trivial (Below.refl _ _) (Nat.le_refl _) (by simp) ?_; (case hd => rfl); (case hg => rfl); (case hr => first | (go_simp; done) | (go_simp; rfl)); (case hp => exact (Reps.none _ _)); intro v386 w6 ho7 hb hg_ hnew_; clear hg_ hnew_; (first | rw [← Ny385.out] at ho7 | (simp only [Int.reduceToNat] at ho7; rw [← Ny385.out] at ho7)); have HO387 := Aside0.mk (Kd.R_lower (Kd.R_new' ho7 (Kd.R_lt (qR HO384.out))) (below_size (qB HB.out))); replace HO384 := Aside0.mk (Kd.R_elder' (qR HO384.out) (Kd.R_base ho7) hb); replace HB := Aside0.mk (below_step (qB HB.out) hb); clear hb ho7) | ((with_reducible refine gate_dst (N := 18) rfl ?_); refine Kd.R_lit Kd.string _ 9 ?hg (N := 18) ?hd (xs := ([] : List ByteArray)) (inner := []) (ok := fun _ => True) (okp := fun _ => True) ?hr ?hp (fun _ hk => hk) trivial (Below.refl _ _) (Nat.le_refl _) (by simp) ?_; (case hd => rfl); (case hg => rfl); (case hr => first | (go_simp; done) | (go_simp; rfl)); (case hp => exact (Reps.none _ _)); intro v389 w8 ho9 hb hg_ hnew_; clear hg_ hnew_; (first | rw [← Ny388.out] at ho9 | (simp only [Int.reduceToNat] at ho9; rw [← Ny388.out] at ho9)); have HO390 := Aside0.mk (Kd.R_lower (Kd.R_new' (Kd.R_new' ho9 (Kd.R_lt (qR HO384.out))) (Kd.R_lt (qR HO387.out))) (below_size (qB HB.out))); replace HO384 := Aside0.mk (Kd.R_elder' (qR HO384.out) (Kd.R_base ho9) hb); replace HO387 := Aside0.mk (Kd.R_elder' (qR HO387.out) (Kd.R_base ho9) hb); replace HB := Aside0.mk (below_step (qB HB.out) hb); clear hb ho9)))
 go_loopg [9, 10] k (fun kq v9 v10 w' => ∃ (x9_1 : List ByteArray) (x10_1 : Int), v10 = .int .i64 x10_1 ∧ Aside0 (spec_l05Special.l0 kq a1 a2 t382 y385 x9_1 x10_1 = some r) ∧ Aside0 (kq ≤ k) ∧ Aside0 (Kd.R Kd.string 9 w' w.heap.size (fun k_ => some k_ ≠ (v386 : Value).ownBlock ∧ some k_ ≠ (v9 : Value).ownBlock) v383 t382) ∧ Aside0 (Kd.R Kd.string 9 w' w.heap.size (fun k_ => some k_ ≠ (v383 : Value).ownBlock ∧ some k_ ≠ (v9 : Value).ownBlock) v386 y385) ∧ Aside0 (Kd.R Kd.string 9 w' w.heap.size (fun k_ => some k_ ≠ (v383 : Value).ownBlock ∧ some k_ ≠ (v386 : Value).ownBlock) v9 x9_1) ∧ Aside0 (Below w.heap.size w w'))
 case atStart => exact ⟨(y388), (0), qF, H', ⟨Nat.le_refl _⟩, ⟨by (with_reducible repeat (first | apply Kd.R_alloc | apply Kd.R_drewN | apply Kd.R_drew)); exact Kd.R_mono HO384.out (fun _ hk => ⟨hk.1.2, hk.2⟩)⟩, ⟨by (with_reducible repeat (first | apply Kd.R_alloc | apply Kd.R_drewN | apply Kd.R_drew)); exact Kd.R_mono HO387.out (fun _ hk => ⟨hk.1.2, hk.2⟩)⟩, ⟨by (with_reducible repeat (first | apply Kd.R_alloc | apply Kd.R_drewN | apply Kd.R_drew)); exact Kd.R_mono HO390.out (fun _ hk => ⟨hk.1.2, hk.2⟩)⟩, ⟨qB HB.out⟩⟩
 case round =>
  clear H'
  obtain ⟨x9_1, x10_1, rfl, HA, HK1, HO_7, HO_8, HO_9, HB⟩ := hrel
  cases gk with
  | zero => exact absurd HA.out (by simp [spec_l05Special.l0])
  | succ k1 =>
   have H := HA.out
   clear HA
   simp only [spec_l05Special.l0] at H
   by_cases c10 : x10_1 < (t382.length : Int)
   ·
    rw [if_pos c10] at H
    have c10b0 : decide (x10_1 < (t382.length : Int)) = true := decide_eq_true c10
    clear c10
    by_cases c11 : a2 = true
    rotate_left
    ·
     replace c11 := Bool.eq_false_iff.mpr c11
     subst c11
     rw [if_neg (show ¬ (false = true) by decide)] at H
     by_cases c18 : 0 ≤ x10_1
     rotate_left
     ·
      rw [if_neg c18] at H
      exact absurd H (by simp)
     rw [if_pos c18] at H
     have c18b0 : decide (0 ≤ x10_1) = true := decide_eq_true c18
     clear c18
     by_cases c19 : 1 ≤ ((rdOf ByteArray.empty t382 x10_1).size : Int)
     rotate_left
     ·
      rw [if_neg c19] at H
      exact absurd H (by simp)
     rw [if_pos c19] at H
     have c19b0 := eq_true c19
     have c19b1 : decide (1 ≤ ((rdOf ByteArray.empty t382 x10_1).size : Int)) = true := decide_eq_true c19
     clear c19
     by_cases c20 : x9_1.length < 8796093022208
     rotate_left
     ·
      rw [if_neg c20] at H
      exact absurd H (by simp)
     rw [if_pos c20] at H
     have LMc20 := Aside0.mk c20
     clear c20
     obtain ⟨y396, hy396⟩ : ∃ y_ : List ByteArray, y_ = (x9_1 ++ [(rdOf ByteArray.empty t382 x10_1).extract 1 (rdOf ByteArray.empty t382 x10_1).size]) := ⟨_, rfl⟩
     replace H : (spec_l05Special.l0 k1 a1 false t382 y385 y396 (wrap64 (x10_1 + 1))) = some r := by first | (rw [hy396]; with_reducible exact H) | (have H2_ := (Option.bind_some _ _).symm.trans H; rw [hy396]; with_reducible exact H2_) | (have H2_ := (Option.bind_some _ _).symm.trans H; with_reducible exact H2_) | with_reducible exact H | (rw [hy396]; exact H) | exact H
     have Ny396 := Aside0.mk hy396
     clear hy396
     have H' := Aside0.mk H
     clear H
     obtain ⟨Ao21, co21, eo21⟩ := Kd.R_slice HO_7.out
     subst eo21
     have p395 : 0 ≤ (x10_1 : Int) := of_decide_eq_true (by first | (with_reducible assumption) | assumption)
     have q395 : x10_1 < (t382.length : Int) := of_decide_eq_true (by first | (with_reducible assumption) | assumption)
     obtain ⟨ad395, e395, hx395_0⟩ := Kd.at_string (Kd.R_reads' HO_7.out).2.2 x10_1 p395 q395
     cases e395
     replace p395 := eq_true p395
     replace q395 := eq_true q395
     go_wp2_with (first | ((with_reducible refine gate_builtin (b := .append) (xs := #[.tmp 35, .tmp 41]) rfl ?_); at_builtin; refine Kd.R_append Kd.string (w0 := w) w.heap.size rfl (.tmp 35) (.tmp 41) 26 9 (.string ⟨#[]⟩) 16 rfl Tryz.underlying26 info9 rfl (by decide) (by omega) u9 x9_1 ((rdOf ByteArray.empty t382 x10_1).extract 1 (rdOf ByteArray.empty t382 x10_1).size) [.string ((rdOf ByteArray.empty t382 x10_1).extract 1 (rdOf ByteArray.empty t382 x10_1).size)] (fun k_ => some k_ ≠ (.slice (some ad395) t382.length co21 : Value).ownBlock ∧ some k_ ≠ (v386 : Value).ownBlock) (fun _ => False) rfl rfl ?aP (fun _ hk => hk.elim) ?aF ?aO ?aB ?aS ?aL ?_; (case aP => exact rfl); (case aB => exact (qB HB.out)); (case aF => exact (fun k_ hk => ⟨Kd.fresh' (Kd.R_lt (qR HO_7.out)) k_ hk, Kd.fresh' (Kd.R_lt (qR HO_8.out)) k_ hk⟩)); (case aO => exact (qR HO_9.out)); (case aS => exact (below_size (qB HB.out))); (case aL => have := LMc20.out; omega); intro v397 w22 ho hb hg hat; rw [← Ny396.out] at ho; replace HO_7 := Aside0.mk (Kd.R_after (ok := (fun k_ => some k_ ≠ (v386 : Value).ownBlock)) (qR HO_7.out) hg hat); replace HO_8 := Aside0.mk (Kd.R_after (ok := (fun k_ => some k_ ≠ (.slice (some ad395) t382.length co21 : Value).ownBlock)) (qR HO_8.out) hg hat); replace HB := Aside0.mk (hb); have HO398 := Aside0.mk (ho); clear HO_9; clear ho hb hg hat))
     repeat (go_quiet (first | ((with_reducible refine gate_builtin (b := .append) (xs := #[.tmp 35, .tmp 41]) rfl ?_); at_builtin; refine Kd.R_append Kd.string (w0 := w) w.heap.size rfl (.tmp 35) (.tmp 41) 26 9 (.string ⟨#[]⟩) 16 rfl Tryz.underlying26 info9 rfl (by decide) (by omega) u9 x9_1 ((rdOf ByteArray.empty t382 x10_1).extract 1 (rdOf ByteArray.empty t382 x10_1).size) [.string ((rdOf ByteArray.empty t382 x10_1).extract 1 (rdOf ByteArray.empty t382 x10_1).size)] (fun k_ => some k_ ≠ (.slice (some ad395) t382.length co21 : Value).ownBlock ∧ some k_ ≠ (v386 : Value).ownBlock) (fun _ => False) rfl rfl ?aP (fun _ hk => hk.elim) ?aF ?aO ?aB ?aS ?aL ?_; (case aP => exact rfl); (case aB => exact (qB HB.out)); (case aF => exact (fun k_ hk => ⟨Kd.fresh' (Kd.R_lt (qR HO_7.out)) k_ hk, Kd.fresh' (Kd.R_lt (qR HO_8.out)) k_ hk⟩)); (case aO => exact (qR HO_9.out)); (case aS => exact (below_size (qB HB.out))); (case aL => have := LMc20.out; omega); intro v397 w22 ho hb hg hat; rw [← Ny396.out] at ho; replace HO_7 := Aside0.mk (Kd.R_after (ok := (fun k_ => some k_ ≠ (v386 : Value).ownBlock)) (qR HO_7.out) hg hat); replace HO_8 := Aside0.mk (Kd.R_after (ok := (fun k_ => some k_ ≠ (.slice (some ad395) t382.length co21 : Value).ownBlock)) (qR HO_8.out) hg hat); replace HB := Aside0.mk (hb); have HO398 := Aside0.mk (ho); clear HO_9; clear ho hb hg hat)); try go_wp2_with (first | ((with_reducible refine gate_builtin (b := .append) (xs := #[.tmp 35, .tmp 41]) rfl ?_); at_builtin; refine Kd.R_append Kd.string (w0 := w) w.heap.size rfl (.tmp 35) (.tmp 41) 26 9 (.string ⟨#[]⟩) 16 rfl Tryz.underlying26 info9 rfl (by decide) (by omega) u9 x9_1 ((rdOf ByteArray.empty t382 x10_1).extract 1 (rdOf ByteArray.empty t382 x10_1).size) [.string ((rdOf ByteArray.empty t382 x10_1).extract 1 (rdOf ByteArray.empty t382 x10_1).size)] (fun k_ => some k_ ≠ (.slice (some ad395) t382.length co21 : Value).ownBlock ∧ some k_ ≠ (v386 : Value).ownBlock) (fun _ => False) rfl rfl ?aP (fun _ hk => hk.elim) ?aF ?aO ?aB ?aS ?aL ?_; (case aP => exact rfl); (case aB => exact (qB HB.out)); (case aF => exact (fun k_ hk => ⟨Kd.fresh' (Kd.R_lt (qR HO_7.out)) k_ hk, Kd.fresh' (Kd.R_lt (qR HO_8.out)) k_ hk⟩)); (case aO => exact (qR HO_9.out)); (case aS => exact (below_size (qB HB.out))); (case aL => have := LMc20.out; omega); intro v397 w22 ho hb hg hat; rw [← Ny396.out] at ho; replace HO_7 := Aside0.mk (Kd.R_after (ok := (fun k_ => some k_ ≠ (v386 : Value).ownBlock)) (qR HO_7.out) hg hat); replace HO_8 := Aside0.mk (Kd.R_after (ok := (fun k_ => some k_ ≠ (.slice (some ad395) t382.length co21 : Value).ownBlock)) (qR HO_8.out) hg hat); replace HB := Aside0.mk (hb); have HO398 := Aside0.mk (ho); clear HO_9; clear ho hb hg hat)))
     go_roundg k1
     case measure => have := HK1.out; omega
     case rel => exact ⟨(y396), (wrap64 (x10_1 + 1)), qF, H', ⟨by have := HK1.out; omega⟩, ⟨qR HO_7.out⟩, ⟨qR HO_8.out⟩, ⟨qR HO398.out⟩, ⟨qB HB.out⟩⟩
    subst c11
    rw [if_pos rfl] at H
    by_cases c12 : 0 ≤ x10_1
    rotate_left
    ·
     rw [if_neg c12] at H
     exact absurd H (by simp)
    rw [if_pos c12] at H
    have c12b0 : decide (0 ≤ x10_1) = true := decide_eq_true c12
    clear c12
    by_cases c13 : 0 ≤ a1
    rotate_left
    ·
     rw [if_neg c13] at H
     exact absurd H (by simp)
    rw [if_pos c13] at H
    have c13b0 := eq_true c13
    have c13b1 : decide (0 ≤ a1) = true := decide_eq_true c13
    clear c13
    by_cases c14 : a1 ≤ ((rdOf ByteArray.empty t382 x10_1).size : Int)
    rotate_left
    ·
     rw [if_neg c14] at H
     exact absurd H (by simp)
    rw [if_pos c14] at H
    have c14b0 := eq_true c14
    have c14b1 : decide (a1 ≤ ((rdOf ByteArray.empty t382 x10_1).size : Int)) = true := decide_eq_true c14
    clear c14
    by_cases c15 : x9_1.length < 8796093022208
    rotate_left
    ·
     rw [if_neg c15] at H
     exact absurd H (by simp)
    rw [if_pos c15] at H
    have LMc15 := Aside0.mk c15
    clear c15
    obtain ⟨y392, hy392⟩ : ∃ y_ : List ByteArray, y_ = (x9_1 ++ [(rdOf ByteArray.empty t382 x10_1).extract 0 (a1 : Int).toNat]) := ⟨_, rfl⟩
    replace H : (spec_l05Special.l0 k1 a1 true t382 y385 y392 (wrap64 (x10_1 + 1))) = some r := by first | (rw [hy392]; with_reducible exact H) | (have H2_ := (Option.bind_some _ _).symm.trans H; rw [hy392]; with_reducible exact H2_) | (have H2_ := (Option.bind_some _ _).symm.trans H; with_reducible exact H2_) | with_reducible exact H | (rw [hy392]; exact H) | exact H
    have Ny392 := Aside0.mk hy392
    clear hy392
    have H' := Aside0.mk H
    clear H
    obtain ⟨Ao16, co16, eo16⟩ := Kd.R_slice HO_7.out
    subst eo16
    have p391 : 0 ≤ (x10_1 : Int) := of_decide_eq_true (by first | (with_reducible assumption) | assumption)
    have q391 : x10_1 < (t382.length : Int) := of_decide_eq_true (by first | (with_reducible assumption) | assumption)
    obtain ⟨ad391, e391, hx391_0⟩ := Kd.at_string (Kd.R_reads' HO_7.out).2.2 x10_1 p391 q391
    cases e391
    replace p391 := eq_true p391
    replace q391 := eq_true q391
    go_wp2_with (first | ((with_reducible refine gate_builtin (b := .append) (xs := #[.tmp 26, .tmp 33]) rfl ?_); at_builtin; refine Kd.R_append Kd.string (w0 := w) w.heap.size rfl (.tmp 26) (.tmp 33) 26 9 (.string ⟨#[]⟩) 16 rfl Tryz.underlying26 info9 rfl (by decide) (by omega) u9 x9_1 ((rdOf ByteArray.empty t382 x10_1).extract 0 (a1 : Int).toNat) [.string ((rdOf ByteArray.empty t382 x10_1).extract 0 (a1 : Int).toNat)] (fun k_ => some k_ ≠ (.slice (some ad391) t382.length co16 : Value).ownBlock ∧ some k_ ≠ (v386 : Value).ownBlock) (fun _ => False) rfl rfl ?aP (fun _ hk => hk.elim) ?aF ?aO ?aB ?aS ?aL ?_; (case aP => exact rfl); (case aB => exact (qB HB.out)); (case aF => exact (fun k_ hk => ⟨Kd.fresh' (Kd.R_lt (qR HO_7.out)) k_ hk, Kd.fresh' (Kd.R_lt (qR HO_8.out)) k_ hk⟩)); (case aO => exact (qR HO_9.out)); (case aS => exact (below_size (qB HB.out))); (case aL => have := LMc15.out; omega); intro v393 w17 ho hb hg hat; rw [← Ny392.out] at ho; replace HO_7 := Aside0.mk (Kd.R_after (ok := (fun k_ => some k_ ≠ (v386 : Value).ownBlock)) (qR HO_7.out) hg hat); replace HO_8 := Aside0.mk (Kd.R_after (ok := (fun k_ => some k_ ≠ (.slice (some ad391) t382.length co16 : Value).ownBlock)) (qR HO_8.out) hg hat); replace HB := Aside0.mk (hb); have HO394 := Aside0.mk (ho); clear HO_9; clear ho hb hg hat))
    repeat (go_quiet (first | ((with_reducible refine gate_builtin (b := .append) (xs := #[.tmp 26, .tmp 33]) rfl ?_); at_builtin; refine Kd.R_append Kd.string (w0 := w) w.heap.size rfl (.tmp 26) (.tmp 33) 26 9 (.string ⟨#[]⟩) 16 rfl Tryz.underlying26 info9 rfl (by decide) (by omega) u9 x9_1 ((rdOf ByteArray.empty t382 x10_1).extract 0 (a1 : Int).toNat) [.string ((rdOf ByteArray.empty t382 x10_1).extract 0 (a1 : Int).toNat)] (fun k_ => some k_ ≠ (.slice (some ad391) t382.length co16 : Value).ownBlock ∧ some k_ ≠ (v386 : Value).ownBlock) (fun _ => False) rfl rfl ?aP (fun _ hk => hk.elim) ?aF ?aO ?aB ?aS ?aL ?_; (case aP => exact rfl); (case aB => exact (qB HB.out)); (case aF => exact (fun k_ hk => ⟨Kd.fresh' (Kd.R_lt (qR HO_7.out)) k_ hk, Kd.fresh' (Kd.R_lt (qR HO_8.out)) k_ hk⟩)); (case aO => exact (qR HO_9.out)); (case aS => exact (below_size (qB HB.out))); (case aL => have := LMc15.out; omega); intro v393 w17 ho hb hg hat; rw [← Ny392.out] at ho; replace HO_7 := Aside0.mk (Kd.R_after (ok := (fun k_ => some k_ ≠ (v386 : Value).ownBlock)) (qR HO_7.out) hg hat); replace HO_8 := Aside0.mk (Kd.R_after (ok := (fun k_ => some k_ ≠ (.slice (some ad391) t382.length co16 : Value).ownBlock)) (qR HO_8.out) hg hat); replace HB := Aside0.mk (hb); have HO394 := Aside0.mk (ho); clear HO_9; clear ho hb hg hat)); try go_wp2_with (first | ((with_reducible refine gate_builtin (b := .append) (xs := #[.tmp 26, .tmp 33]) rfl ?_); at_builtin; refine Kd.R_append Kd.string (w0 := w) w.heap.size rfl (.tmp 26) (.tmp 33) 26 9 (.string ⟨#[]⟩) 16 rfl Tryz.underlying26 info9 rfl (by decide) (by omega) u9 x9_1 ((rdOf ByteArray.empty t382 x10_1).extract 0 (a1 : Int).toNat) [.string ((rdOf ByteArray.empty t382 x10_1).extract 0 (a1 : Int).toNat)] (fun k_ => some k_ ≠ (.slice (some ad391) t382.length co16 : Value).ownBlock ∧ some k_ ≠ (v386 : Value).ownBlock) (fun _ => False) rfl rfl ?aP (fun _ hk => hk.elim) ?aF ?aO ?aB ?aS ?aL ?_; (case aP => exact rfl); (case aB => exact (qB HB.out)); (case aF => exact (fun k_ hk => ⟨Kd.fresh' (Kd.R_lt (qR HO_7.out)) k_ hk, Kd.fresh' (Kd.R_lt (qR HO_8.out)) k_ hk⟩)); (case aO => exact (qR HO_9.out)); (case aS => exact (below_size (qB HB.out))); (case aL => have := LMc15.out; omega); intro v393 w17 ho hb hg hat; rw [← Ny392.out] at ho; replace HO_7 := Aside0.mk (Kd.R_after (ok := (fun k_ => some k_ ≠ (v386 : Value).ownBlock)) (qR HO_7.out) hg hat); replace HO_8 := Aside0.mk (Kd.R_after (ok := (fun k_ => some k_ ≠ (.slice (some ad391) t382.length co16 : Value).ownBlock)) (qR HO_8.out) hg hat); replace HB := Aside0.mk (hb); have HO394 := Aside0.mk (ho); clear HO_9; clear ho hb hg hat)))
    go_roundg k1
    case measure => have := HK1.out; omega
    case rel => exact ⟨(y392), (wrap64 (x10_1 + 1)), qF, H', ⟨by have := HK1.out; omega⟩, ⟨qR HO_7.out⟩, ⟨qR HO_8.out⟩, ⟨qR HO394.out⟩, ⟨qB HB.out⟩⟩
   rw [if_neg c10] at H
   have c10b0 : decide (x10_1 < (t382.length : Int)) = false := decide_eq_false c10
   clear c10
   have H' := Aside0.mk H
   clear H
   obtain ⟨Ao23, co23, eo23⟩ := Kd.R_slice HO_7.out
   subst eo23
   go_wp2
   repeat (go_quiet (fail); try go_wp2)
   go_loopg [8, 11] k1 (fun kq v8 v11 w' => ∃ (x8_2 : List ByteArray) (x11_2 : Int), v11 = .int .i64 x11_2 ∧ Aside0 (spec_l05Special.l1 kq x8_2 x9_1 x11_2 = some r) ∧ Aside0 (kq ≤ k1) ∧ Aside0 (Kd.R Kd.string 9 w' w.heap.size (fun k_ => some k_ ≠ (u9 : Value).ownBlock) v8 x8_2) ∧ Aside0 (Kd.R Kd.string 9 w' w.heap.size (fun k_ => some k_ ≠ (v8 : Value).ownBlock) u9 x9_1) ∧ Aside0 (Below w.heap.size w w'))
   case atStart => exact ⟨(y385), (0), qF, H', ⟨Nat.le_refl _⟩, ⟨by (with_reducible repeat (first | apply Kd.R_alloc | apply Kd.R_drewN | apply Kd.R_drew)); exact Kd.R_mono HO_8.out (fun _ hk => hk.2)⟩, ⟨by (with_reducible repeat (first | apply Kd.R_alloc | apply Kd.R_drewN | apply Kd.R_drew)); exact Kd.R_mono HO_9.out (fun _ hk => hk.2)⟩, ⟨qB HB.out⟩⟩
   case round =>
    clear H'
    obtain ⟨x8_2, x11_2, rfl, HA, HK2, HO_8, HO_9, HB⟩ := hrel
    cases gk with
    | zero => exact absurd HA.out (by simp [spec_l05Special.l1])
    | succ k2 =>
     have H := HA.out
     clear HA
     simp only [spec_l05Special.l1] at H
     by_cases c24 : x11_2 < (x9_1.length : Int)
     rotate_left
     ·
      rw [if_neg c24] at H
      have c24b0 : decide (x11_2 < (x9_1.length : Int)) = false := decide_eq_false c24
      clear c24
      obtain rfl := Option.some.inj H
      obtain ⟨Ao35, co35, eo35⟩ := Kd.R_slice HO_9.out
      subst eo35
      go_wp2
      repeat (go_quiet (fail); try go_wp2)
      go_ret
      exact ⟨_, qE, by (with_reducible repeat (first | apply Kd.R_alloc | apply Kd.R_drewN | apply Kd.R_drew)); exact Kd.R_mono HO_8.out (fun _ hk => trivial), qB HB.out⟩

     rw [if_pos c24] at H
     have c24b0 : decide (x11_2 < (x9_1.length : Int)) = true := decide_eq_true c24
     clear c24
     have H' := Aside0.mk H
     clear H
     obtain ⟨Ao25, co25, eo25⟩ := Kd.R_slice HO_9.out
     subst eo25
     go_wp2
     repeat (go_quiet (fail); try go_wp2)
     go_loopg [8, 12] k2 (fun kq v8 v12 w' => ∃ (x8_3 : List ByteArray) (x12_3 : Int), v12 = .int .i64 x12_3 ∧ Aside0 (spec_l05Special.l2 kq x8_3 x9_1 x11_2 x12_3 = some r) ∧ Aside0 (kq ≤ k2) ∧ Aside0 (Kd.R Kd.string 9 w' w.heap.size (fun k_ => some k_ ≠ ((.slice Ao25 x9_1.length co25) : Value).ownBlock) v8 x8_3) ∧ Aside0 (Kd.R Kd.string 9 w' w.heap.size (fun k_ => some k_ ≠ (v8 : Value).ownBlock) (.slice Ao25 x9_1.length co25) x9_1) ∧ Aside0 (Below w.heap.size w w'))
     case atStart => exact ⟨(x8_2), (0), qF, H', ⟨Nat.le_refl _⟩, ⟨qR HO_8.out⟩, ⟨qR HO_9.out⟩, ⟨qB HB.out⟩⟩
     case round =>
      clear H'
      obtain ⟨x8_3, x12_3, rfl, HA, HK3, HO_8, HO_9, HB⟩ := hrel
      cases gk with
      | zero => exact absurd HA.out (by simp [spec_l05Special.l2])
      | succ k3 =>
       have H := HA.out
       clear HA
       simp only [spec_l05Special.l2] at H
       by_cases c26 : x12_3 < x11_2
       rotate_left
       ·
        rw [if_neg c26] at H
        have c26b0 : decide (x12_3 < x11_2) = false := decide_eq_false c26
        clear c26
        have H' := Aside0.mk H
        clear H
        go_wp2
        repeat (go_quiet (fail); try go_wp2)
        go_roundg k3
        case measure => have := HK1.out; have := HK2.out; have := HK3.out; omega
        case rel => exact ⟨(x8_3), (wrap64 (x11_2 + 1)), qF, H', ⟨by have := HK1.out; have := HK2.out; have := HK3.out; omega⟩, ⟨qR HO_8.out⟩, ⟨qR HO_9.out⟩, ⟨qB HB.out⟩⟩
       rw [if_pos c26] at H
       have c26b0 : decide (x12_3 < x11_2) = true := decide_eq_true c26
       clear c26
       by_cases c27 : 0 ≤ x12_3
       rotate_left
       ·
        rw [if_neg c27] at H
        exact absurd H (by simp)
       rw [if_pos c27] at H
       have c27b0 : decide (0 ≤ x12_3) = true := decide_eq_true c27
       clear c27
       by_cases c28 : x12_3 < (x9_1.length : Int)
       rotate_left
       ·
        rw [if_neg c28] at H
        exact absurd H (by simp)
       rw [if_pos c28] at H
       have c28b0 : decide (x12_3 < (x9_1.length : Int)) = true := decide_eq_true c28
       clear c28
       by_cases c29 : 0 ≤ x11_2
       rotate_left
       ·
        rw [if_neg c29] at H
        exact absurd H (by simp)
       rw [if_pos c29] at H
       have c29b0 : decide (0 ≤ x11_2) = true := decide_eq_true c29
       clear c29
       by_cases c30 : x11_2 < (x9_1.length : Int)
       rotate_left
       ·
        rw [if_neg c30] at H
        exact absurd H (by simp)
       rw [if_pos c30] at H
       have c30b0 : decide (x11_2 < (x9_1.length : Int)) = true := decide_eq_true c30
       clear c30
       by_cases c31 : (rdOf ByteArray.empty x9_1 x12_3).toList = (rdOf ByteArray.empty x9_1 x11_2).toList
       rotate_left
       ·
        rw [if_neg c31] at H
        obtain ⟨c31b0, c31b1⟩ := zF c31
        have H' := Aside0.mk H
        clear H
        have p399 : 0 ≤ (x12_3 : Int) := of_decide_eq_true (by first | (with_reducible assumption) | assumption)
        have q399 : x12_3 < (x9_1.length : Int) := of_decide_eq_true (by first | (with_reducible assumption) | assumption)
        obtain ⟨ad399, e399, hx399_0⟩ := Kd.at_string (Kd.R_reads' HO_9.out).2.2 x12_3 p399 q399
        cases e399
        replace p399 := eq_true p399
        replace q399 := eq_true q399
        have p400 : 0 ≤ (x11_2 : Int) := of_decide_eq_true (by first | (with_reducible assumption) | assumption)
        have q400 : x11_2 < (x9_1.length : Int) := of_decide_eq_true (by first | (with_reducible assumption) | assumption)
        obtain ⟨ad400, e400, hx400_0⟩ := Kd.at_string (Kd.R_reads' HO_9.out).2.2 x11_2 p400 q400
        obtain rfl : ad399 = ad400 := (by injection e400)
        replace p400 := eq_true p400
        replace q400 := eq_true q400
        go_wp2
        repeat (go_quiet (fail); try go_wp2)
        go_roundg k3
        case measure => have := HK1.out; have := HK2.out; have := HK3.out; omega
        case rel => exact ⟨(x8_3), (wrap64 (x12_3 + 1)), qF, H', ⟨by have := HK1.out; have := HK2.out; have := HK3.out; omega⟩, ⟨qR HO_8.out⟩, ⟨qR HO_9.out⟩, ⟨qB HB.out⟩⟩
       rw [if_pos c31] at H
       obtain ⟨c31b0, c31b1⟩ := zT c31
       clear c31
       replace H := qN H
       obtain ⟨t402, A32, H⟩ := H
       try dsimp only at H
       have H' := Aside0.mk H
       clear H
       have p399 : 0 ≤ (x12_3 : Int) := of_decide_eq_true (by first | (with_reducible assumption) | assumption)
       have q399 : x12_3 < (x9_1.length : Int) := of_decide_eq_true (by first | (with_reducible assumption) | assumption)
       obtain ⟨ad399, e399, hx399_0⟩ := Kd.at_string (Kd.R_reads' HO_9.out).2.2 x12_3 p399 q399
       cases e399
       replace p399 := eq_true p399
       replace q399 := eq_true q399
       have p400 : 0 ≤ (x11_2 : Int) := of_decide_eq_true (by first | (with_reducible assumption) | assumption)
       have q400 : x11_2 < (x9_1.length : Int) := of_decide_eq_true (by first | (with_reducible assumption) | assumption)
       obtain ⟨ad400, e400, hx400_0⟩ := Kd.at_string (Kd.R_reads' HO_9.out).2.2 x11_2 p400 q400
       obtain rfl : ad399 = ad400 := (by injection e400)
       replace p400 := eq_true p400
       replace q400 := eq_true q400
       have p401 : 0 ≤ (x11_2 : Int) := of_decide_eq_true (by first | (with_reducible assumption) | assumption)
       have q401 : x11_2 < (x9_1.length : Int) := of_decide_eq_true (by first | (with_reducible assumption) | assumption)
       obtain ⟨ad401, e401, hx401_0⟩ := Kd.at_string (Kd.R_reads' HO_9.out).2.2 x11_2 p401 q401
       obtain rfl : ad399 = ad401 := (by injection e401)
       replace p401 := eq_true p401
       replace q401 := eq_true q401
       obtain ⟨Ao33, co33, eo33⟩ := Kd.R_slice HO_8.out
       subst eo33
       go_wp2_with (first | (go_at_call 67; (with_reducible refine (spec_l01Put.calls k3 (fun k_ => some k_ = (.slice Ao33 x8_3.length co33 : Value).ownBlock) (.slice Ao33 x8_3.length co33) x8_3 (rdOf ByteArray.empty x9_1 x11_2) t402 w _ ?side1 ?side2 A32.out).mono ?_); (case side1 => exact qB HB.out); (case side2 => exact Kd.R_tight rfl HO_8.out); rintro e w34 ⟨v403, rfl, ho0, hb, hkp⟩; have HO404 := Aside0.mk (Kd.R_mono (ok' := fun k_ => some k_ ≠ (.slice (some ad399) x9_1.length co25 : Value).ownBlock) ho0 (fun k_ hk_ => Or.elim hk_ (fun hs_ => fun e_ => (((HO_9.out).1 k_ e_.symm)) hs_) (fun hn_ => (Kd.fresh' (Kd.R_lt (qR HO_9.out)) k_ hn_)))); replace HO_9 := Aside0.mk (Kd.R_mono (ok' := fun k_ => some k_ ≠ (v403 : Value).ownBlock) (Kd.R_keptB (HO_9.out) hkp (fun k_ hk_ hs_ => (hk_) hs_)) (fun k_ hk_ => fun e_ => Or.elim (ho0.1 k_ e_.symm) (fun hs_ => hk_.2.1 hs_) (fun hn_ => Nat.not_le.2 hk_.2.2 hn_))); replace HB := Aside0.mk (hb); clear HO_8))
       repeat (go_quiet (first | (go_at_call 67; (with_reducible refine (spec_l01Put.calls k3 (fun k_ => some k_ = (.slice Ao33 x8_3.length co33 : Value).ownBlock) (.slice Ao33 x8_3.length co33) x8_3 (rdOf ByteArray.empty x9_1 x11_2) t402 w _ ?side1 ?side2 A32.out).mono ?_); (case side1 => exact qB HB.out); (case side2 => exact Kd.R_tight rfl HO_8.out); rintro e w34 ⟨v403, rfl, ho0, hb, hkp⟩; have HO404 := Aside0.mk (Kd.R_mono (ok' := fun k_ => some k_ ≠ (.slice (some ad399) x9_1.length co25 : Value).ownBlock) ho0 (fun k_ hk_ => Or.elim hk_ (fun hs_ => fun e_ => (((HO_9.out).1 k_ e_.symm)) hs_) (fun hn_ => (Kd.fresh' (Kd.R_lt (qR HO_9.out)) k_ hn_)))); replace HO_9 := Aside0.mk (Kd.R_mono (ok' := fun k_ => some k_ ≠ (v403 : Value).ownBlock) (Kd.R_keptB (HO_9.out) hkp (fun k_ hk_ hs_ => (hk_) hs_)) (fun k_ hk_ => fun e_ => Or.elim (ho0.1 k_ e_.symm) (fun hs_ => hk_.2.1 hs_) (fun hn_ => Nat.not_le.2 hk_.2.2 hn_))); replace HB := Aside0.mk (hb); clear HO_8)); try go_wp2_with (first | (go_at_call 67; (with_reducible refine (spec_l01Put.calls k3 (fun k_ => some k_ = (.slice Ao33 x8_3.length co33 : Value).ownBlock) (.slice Ao33 x8_3.length co33) x8_3 (rdOf ByteArray.empty x9_1 x11_2) t402 w _ ?side1 ?side2 A32.out).mono ?_); (case side1 => exact qB HB.out); (case side2 => exact Kd.R_tight rfl HO_8.out); rintro e w34 ⟨v403, rfl, ho0, hb, hkp⟩; have HO404 := Aside0.mk (Kd.R_mono (ok' := fun k_ => some k_ ≠ (.slice (some ad399) x9_1.length co25 : Value).ownBlock) ho0 (fun k_ hk_ => Or.elim hk_ (fun hs_ => fun e_ => (((HO_9.out).1 k_ e_.symm)) hs_) (fun hn_ => (Kd.fresh' (Kd.R_lt (qR HO_9.out)) k_ hn_)))); replace HO_9 := Aside0.mk (Kd.R_mono (ok' := fun k_ => some k_ ≠ (v403 : Value).ownBlock) (Kd.R_keptB (HO_9.out) hkp (fun k_ hk_ hs_ => (hk_) hs_)) (fun k_ hk_ => fun e_ => Or.elim (ho0.1 k_ e_.symm) (fun hs_ => hk_.2.1 hs_) (fun hn_ => Nat.not_le.2 hk_.2.2 hn_))); replace HB := Aside0.mk (hb); clear HO_8)))
       go_roundg k3
       case measure => have := HK1.out; have := HK2.out; have := HK3.out; omega
       case rel => exact ⟨(t402), (wrap64 (x12_3 + 1)), qF, H', ⟨by have := HK1.out; have := HK2.out; have := HK3.out; omega⟩, ⟨qR HO404.out⟩, ⟨qR HO_9.out⟩, ⟨qB HB.out⟩⟩
end Go.Proofs.YtgfnkdoennbipaaGreat.PF

namespace Go.Proofs.YtgfnkdoennbipaaGreat.PF
open Go.RowKit Go.Proofs.YtgfnkdoennbipaaGreatW.PrintWords Go.Proofs.YtgfnkdoennbipaaGreatW.PrintLast Go.Proofs.YtgfnkdoennbipaaGreatW.PrintMore
attribute [local go_sem] max2_int min2_int max_two min_two max_three min_three max_four min_four   -- for this text's walks alone
set_option linter.unusedVariables false
set_option linter.unusedSimpArgs false

/-! ### spec_Bispecial: function 7 -/
mutual
def spec_Bispecial.l0 : Nat → List ByteArray → List ByteArray → List ByteArray → Int → Option (List ByteArray × Int)
 | 0, _, _, _, _ => none
 | k + 1, x7, x8, x9, x10 => if x10 < (x7.length : Int) then (spec_Bispecial.l1 k x7 x8 x9 x10 0) else (some (x9, 0))
def spec_Bispecial.l1 : Nat → List ByteArray → List ByteArray → List ByteArray → Int → Int → Option (List ByteArray × Int)
 | 0, _, _, _, _, _ => none
 | k + 1, x7, x8, x9, x10, x11 => if x11 < (x8.length : Int) then (if 0 ≤ x10 then (if x10 < (x7.length : Int) then (if 0 ≤ x11 then (if (rdOf ByteArray.empty x7 x10).toList = (rdOf ByteArray.empty x8 x11).toList then (if x9.length < 8796093022208 then (spec_Bispecial.l1 k x7 x8 (x9 ++ [rdOf ByteArray.empty x7 x10]) x10 (wrap64 (x11 + 1))) else (none)) else (spec_Bispecial.l1 k x7 x8 x9 x10 (wrap64 (x11 + 1)))) else (none)) else (none)) else (none)) else (spec_Bispecial.l0 k x7 x8 x9 (wrap64 (x10 + 1)))
end
def spec_Bispecial.f (k : Nat) (a0 : ByteArray) (a1 : Int) : Option (List ByteArray × Int) := (spec_l05Code.f k a0 a1).bind fun t405 => (if t405 = 0 then ((spec_l05Special.f k a0 a1 true).bind fun t406 => ((spec_l05Special.f k a0 a1 false).bind fun t409 => (spec_Bispecial.l0 k t406 t409 (([] : List ByteArray)) 0))) else (some (([] : List ByteArray), t405)))
theorem spec_Bispecial.mono_l : ∀ k, (∀ y0 y1 y2 y3, LeO (spec_Bispecial.l0 k y0 y1 y2 y3) (spec_Bispecial.l0 (k + 1) y0 y1 y2 y3)) ∧ (∀ y0 y1 y2 y3 y4, LeO (spec_Bispecial.l1 k y0 y1 y2 y3 y4) (spec_Bispecial.l1 (k + 1) y0 y1 y2 y3 y4))
 | 0 => ⟨fun _ _ _ _ r h => by simp [spec_Bispecial.l0] at h, fun _ _ _ _ _ r h => by simp [spec_Bispecial.l1] at h⟩
 | k + 1 => by
  obtain ⟨ih0, ih1⟩ := spec_Bispecial.mono_l k
  refine ⟨?_, ?_⟩
  all_goals intros
  all_goals first | unfold spec_Bispecial.l0 | unfold spec_Bispecial.l1
  all_goals with_reducible repeat' first
  | exact ih0 _ _ _ _
  | exact ih1 _ _ _ _ _
  | exact spec_l05Code.mono _ _ _
  | exact spec_l05Special.mono _ _ _ _
  | exact LeO.refl _
  | exact LeO.none _
  | refine LeO.ite ?_ ?_
  | refine LeO.bind ?_ (fun _ => ?_)
theorem spec_Bispecial.mono : ∀ a0 a1 k, LeO (spec_Bispecial.f k a0 a1) (spec_Bispecial.f (k + 1) a0 a1) := by
 intro a0 a1 k
 obtain ⟨ih0, ih1⟩ := spec_Bispecial.mono_l k
 unfold spec_Bispecial.f
 with_reducible repeat' first
   | exact ih0 _ _ _ _
   | exact ih1 _ _ _ _ _
   | exact spec_l05Code.mono _ _ _
   | exact spec_l05Special.mono _ _ _ _
   | exact LeO.refl _
   | exact LeO.none _
   | refine LeO.ite ?_ ?_
   | refine LeO.bind ?_ (fun _ => ?_)
set_option maxHeartbeats 8000000 in
set_option maxRecDepth 100000 in
theorem spec_Bispecial.calls (k : Nat) (a0 : ByteArray) (a1 : Int) (r1 : List ByteArray) (r2 : Int) (w : World) (h : spec_Bispecial.f k a0 a1 = some (r1, r2)) :
  Calls Tryz.prog 7 #[.string a0, .int .i64 a1] w fun e w' => ∃ v0_ : Value, e = .returned (.tuple #[v0_, .int .i64 r2]) ∧ Kd.R Kd.string 9 w' w.heap.size (fun _ => True) v0_ r1 ∧ Below w.heap.size w w' := by
 have HB := Aside0.mk (Below.refl w.heap.size w)
 have H : ((spec_l05Code.f k a0 a1).bind fun t405 => (if t405 = 0 then ((spec_l05Special.f k a0 a1 true).bind fun t406 => ((spec_l05Special.f k a0 a1 false).bind fun t409 => (spec_Bispecial.l0 k t406 t409 (([] : List ByteArray)) 0))) else (some (([] : List ByteArray), t405)))) = some (r1, r2) := h
 clear h
 replace H := qN H
 obtain ⟨t405, A3, H⟩ := H
 try dsimp only at H
 by_cases c4 : t405 = 0
 rotate_left
 ·
  rw [if_neg c4] at H
  obtain ⟨c4b0, c4b1⟩ := zF c4
  simp only [Option.some.injEq, Prod.mk.injEq] at H
  obtain ⟨rfl, rfl⟩ := H
  go_enter Tryz.func7, Tryz.ntmps7
  go_wp2_with (first | (go_at_call 33; (with_reducible refine (spec_l05Code.calls k a0 a1 t405 _ A3.out).mono ?_); rintro e w' ⟨rfl, ⟨nd, rfl⟩⟩; (try first | exact ⟨rfl, _, World.drewN_drewN _ _ _⟩ | exact ⟨rfl, _, Eq.trans (World.drewN_drewN _ _ _) (congrArg (World.drewN _) (Nat.add_assoc _ _ _))⟩)))
  repeat (go_quiet (first | (go_at_call 33; (with_reducible refine (spec_l05Code.calls k a0 a1 t405 _ A3.out).mono ?_); rintro e w' ⟨rfl, ⟨nd, rfl⟩⟩; (try first | exact ⟨rfl, _, World.drewN_drewN _ _ _⟩ | exact ⟨rfl, _, Eq.trans (World.drewN_drewN _ _ _) (congrArg (World.drewN _) (Nat.add_assoc _ _ _))⟩))); try go_wp2_with (first | (go_at_call 33; (with_reducible refine (spec_l05Code.calls k a0 a1 t405 _ A3.out).mono ?_); rintro e w' ⟨rfl, ⟨nd, rfl⟩⟩; (try first | exact ⟨rfl, _, World.drewN_drewN _ _ _⟩ | exact ⟨rfl, _, Eq.trans (World.drewN_drewN _ _ _) (congrArg (World.drewN _) (Nat.add_assoc _ _ _))⟩))))
  go_ret2
  exact ⟨_, qE, by first | exact Kd.R_nil _ _ _ _ _ | exact Kd.N_nil _ _ _ _ _ | exact Kd.V_nil _ _ _ _ _ | exact Kd.Q_nil _ _ _ _ _ | exact Kd.S_nil _ _ _ _ _, qB HB.out⟩

 rw [if_pos c4] at H
 obtain ⟨c4b0, c4b1⟩ := zT c4
 clear c4
 replace H := qN H
 obtain ⟨t406, A5, H⟩ := H
 try dsimp only at H
 replace H := qN H
 obtain ⟨t409, A6, H⟩ := H
 try dsimp only at H
 obtain ⟨y412, hy412⟩ : ∃ y_ : List ByteArray, y_ = (([] : List ByteArray)) := ⟨_, rfl⟩
 replace H : (spec_Bispecial.l0 k t406 t409 y412 0) = some (r1, r2) := by first | (rw [hy412]; with_reducible exact H) | (have H2_ := (Option.bind_some _ _).symm.trans H; rw [hy412]; with_reducible exact H2_) | (have H2_ := (Option.bind_some _ _).symm.trans H; with_reducible exact H2_) | with_reducible exact H | (rw [hy412]; exact H) | exact H
 have Ny412 := Aside0.mk hy412
 clear hy412
 have H' := Aside0.mk H
 clear H
 go_enter Tryz.func7, Tryz.ntmps7
 go_wp2_with (first | (go_at_call 33; (with_reducible refine (spec_l05Code.calls k a0 a1 t405 _ A3.out).mono ?_); rintro e w' ⟨rfl, ⟨nd, rfl⟩⟩; (try first | exact ⟨rfl, _, World.drewN_drewN _ _ _⟩ | exact ⟨rfl, _, Eq.trans (World.drewN_drewN _ _ _) (congrArg (World.drewN _) (Nat.add_assoc _ _ _))⟩)) | (go_at_call 34; (with_reducible refine (spec_l05Special.calls k a0 a1 true t406 _ A5.out).mono ?_); rintro e w7 ⟨v407, rfl, ho0, hb⟩; have HO408 := Aside0.mk (Kd.R_lower ho0 (below_size (qB HB.out))); replace HB := Aside0.mk (below_step (qB HB.out) hb)) | (go_at_call 34; (with_reducible refine (spec_l05Special.calls k a0 a1 false t409 _ A6.out).mono ?_); rintro e w8 ⟨v410, rfl, ho0, hb⟩; have HO411 := Aside0.mk (Kd.R_lower (Kd.R_new' ho0 (Kd.R_lt (qR HO408.out))) (below_size (qB HB.out))); replace HO408 := Aside0.mk (Kd.R_elder' (qR HO408.out) (Kd.R_base ho0) hb); replace HB := Aside0.mk (below_step (qB HB.out) hb)) | ((with_reducible refine gate_dst (N := 24) rfl ?_); refine Kd.R_lit Kd.string _ 9 ?hg (N := 24) ?hd (xs := ([] : List ByteArray)) (inner := []) (ok := fun _ => True) (okp := fun _ => True) ?hr ?hp (fun _ hk => hk) trivial (Below.refl _ _) (Nat.le_refl _) (by simp) ?_; (case hd => rfl); (case hg => rfl); (case hr => first | (go_simp; done) | (go_simp; rfl)); (case hp => exact (Reps.none _ _)); intro v413 w9 ho10 hb hg_ hnew_; clear hg_ hnew_; (first | rw [← Ny412.out] at ho10 | (simp only [Int.reduceToNat] at ho10; rw [← Ny412.out] at ho10)); have HO414 := Aside0.mk (Kd.R_lower (Kd.R_new' (Kd.R_new' ho10 (Kd.R_lt (qR HO408.out))) (Kd.R_lt (qR HO411.out))) (below_size (qB HB.out))); replace HO408 := Aside0.mk (Kd.R_elder' (qR HO408.out) (Kd.R_base ho10) hb); replace HO411 := Aside0.mk (Kd.R_elder' (qR HO411.out) (Kd.R_base ho10) hb); replace HB := Aside0.mk (below_step (qB HB.out) hb); clear hb ho10))
 repeat (go_quiet (first | (go_at_call 33; (with_reducible refine (spec_l05Code.calls k a0 a1 t405 _ A3.out).mono ?_); rintro e w' ⟨rfl, ⟨nd, rfl⟩⟩; (try first | exact ⟨rfl, _, World.drewN_drewN _ _ _⟩ | exact ⟨rfl, _, Eq.trans (World.drewN_drewN _ _ _) (congrArg (World.drewN _) (Nat.add_assoc _ _ _))⟩)) | (go_at_call 34; (with_reducible refine (spec_l05Special.calls k a0 a1 true t406 _ A5.out).mono ?_); rintro e w7 ⟨v407, rfl, ho0, hb⟩; have HO408 := Aside0.mk (Kd.R_lower ho0 (below_size (qB HB.out))); replace HB := Aside0.mk (below_step (qB HB.out) hb)) | (go_at_call 34; (with_reducible refine (spec_l05Special.calls k a0 a1 false t409 _ A6.out).mono ?_); rintro e w8 ⟨v410, rfl, ho0, hb⟩; have HO411 := Aside0.mk (Kd.R_lower (Kd.R_new' ho0 (Kd.R_lt (qR HO408.out))) (below_size (qB HB.out))); replace HO408 := Aside0.mk (Kd.R_elder' (qR HO408.out) (Kd.R_base ho0) hb); replace HB := Aside0.mk (below_step (qB HB.out) hb)) | ((with_reducible refine gate_dst (N := 24) rfl ?_); refine Kd.R_lit Kd.string _ 9 ?hg (N := 24) ?hd (xs := ([] : List ByteArray)) (inner := []) (ok := fun _ => True) (okp := fun _ => True) ?hr ?hp (fun _ hk => hk) trivial (Below.refl _ _) (Nat.le_refl _) (by simp) ?_; (case hd => rfl); (case hg => rfl); (case hr => first | (go_simp; done) | (go_simp; rfl)); (case hp => exact (Reps.none _ _)); intro v413 w9 ho10 hb hg_ hnew_; clear hg_ hnew_; (first | rw [← Ny412.out] at ho10 | (simp only [Int.reduceToNat] at ho10; rw [← Ny412.out] at ho10)); have HO414 := Aside0.mk (Kd.R_lower (Kd.R_new' (Kd.R_new' ho10 (Kd.R_lt (qR HO408.out))) (Kd.R_lt (qR HO411.out))) (below_size (qB HB.out))); replace HO408 := Aside0.mk (Kd.R_elder' (qR HO408.out) (Kd.R_base ho10) hb); replace HO411 := Aside0.mk (Kd.R_elder' (qR HO411.out) (Kd.R_base ho10) hb); replace HB := Aside0.mk (below_step (qB HB.out) hb); clear hb ho10)); try go_wp2_with (first | (go_at_call 33; (with_reducible refine (spec_l05Code.calls k a0 a1 t405 _ A3.out).mono ?_); rintro e w' ⟨rfl, ⟨nd, rfl⟩⟩; (try first | exact ⟨rfl, _, World.drewN_drewN _ _ _⟩ | exact ⟨rfl, _, Eq.trans (World.drewN_drewN _ _ _) (congrArg (World.drewN _) (Nat.add_assoc _ _ _))⟩)) | (go_at_call 34; (with_reducible refine (spec_l05Special.calls k a0 a1 true t406 _ A5.out).mono ?_); rintro e w7 ⟨v407, rfl, ho0, hb⟩; have HO408 := Aside0.mk (Kd.R_lower ho0 (below_size (qB HB.out))); replace HB := Aside0.mk (below_step (qB HB.out) hb)) | (go_at_call 34; (with_reducible refine (spec_l05Special.calls k a0 a1 false t409 _ A6.out).mono ?_); rintro e w8 ⟨v410, rfl, ho0, hb⟩; have HO411 := Aside0.mk (Kd.R_lower (Kd.R_new' ho0 (Kd.R_lt (qR HO408.out))) (below_size (qB HB.out))); replace HO408 := Aside0.mk (Kd.R_elder' (qR HO408.out) (Kd.R_base ho0) hb); replace HB := Aside0.mk (below_step (qB HB.out) hb)) | ((with_reducible refine gate_dst (N := 24) rfl ?_); refine Kd.R_lit Kd.string _ 9 ?hg (N := 24) ?hd (xs := ([] : List ByteArray)) (inner := []) (ok := fun _ => True) (okp := fun _ => True) ?hr ?hp (fun _ hk => hk) trivial (Below.refl _ _) (Nat.le_refl _) (by simp) ?_; (case hd => rfl); (case hg => rfl); (case hr => first | (go_simp; done) | (go_simp; rfl)); (case hp => exact (Reps.none _ _)); intro v413 w9 ho10 hb hg_ hnew_; clear hg_ hnew_; (first | rw [← Ny412.out] at ho10 | (simp only [Int.reduceToNat] at ho10; rw [← Ny412.out] at ho10)); have HO414 := Aside0.mk (Kd.R_lower (Kd.R_new' (Kd.R_new' ho10 (Kd.R_lt (qR HO408.out))) (Kd.R_lt (qR HO411.out))) (below_size (qB HB.out))); replace HO408 := Aside0.mk (Kd.R_elder' (qR HO408.out) (Kd.R_base ho10) hb); replace HO411 := Aside0.mk (Kd.R_elder' (qR HO411.out) (Kd.R_base ho10) hb); replace HB := Aside0.mk (below_step (qB HB.out) hb); clear hb ho10)))
 go_loopg [9, 10] k (fun kq v9 v10 w' => ∃ (x9_1 : List ByteArray) (x10_1 : Int), v10 = .int .i64 x10_1 ∧ Aside0 (spec_Bispecial.l0 kq t406 t409 x9_1 x10_1 = some (r1, r2)) ∧ Aside0 (kq ≤ k) ∧ Aside0 (Kd.R Kd.string 9 w' w.heap.size (fun k_ => some k_ ≠ (v410 : Value).ownBlock ∧ some k_ ≠ (v9 : Value).ownBlock) v407 t406) ∧ Aside0 (Kd.R Kd.string 9 w' w.heap.size (fun k_ => some k_ ≠ (v407 : Value).ownBlock ∧ some k_ ≠ (v9 : Value).ownBlock) v410 t409) ∧ Aside0 (Kd.R Kd.string 9 w' w.heap.size (fun k_ => some k_ ≠ (v407 : Value).ownBlock ∧ some k_ ≠ (v410 : Value).ownBlock) v9 x9_1) ∧ Aside0 (Below w.heap.size w w'))
 case atStart => exact ⟨(y412), (0), qF, H', ⟨Nat.le_refl _⟩, ⟨by (with_reducible repeat (first | apply Kd.R_alloc | apply Kd.R_drewN | apply Kd.R_drew)); exact Kd.R_mono HO408.out (fun _ hk => ⟨hk.1.2, hk.2⟩)⟩, ⟨by (with_reducible repeat (first | apply Kd.R_alloc | apply Kd.R_drewN | apply Kd.R_drew)); exact Kd.R_mono HO411.out (fun _ hk => ⟨hk.1.2, hk.2⟩)⟩, ⟨by (with_reducible repeat (first | apply Kd.R_alloc | apply Kd.R_drewN | apply Kd.R_drew)); exact Kd.R_mono HO414.out (fun _ hk => ⟨hk.1.2, hk.2⟩)⟩, ⟨qB HB.out⟩⟩
 case round =>
  clear H'
  obtain ⟨x9_1, x10_1, rfl, HA, HK1, HO_7, HO_8, HO_9, HB⟩ := hrel
  cases gk with
  | zero => exact absurd HA.out (by simp [spec_Bispecial.l0])
  | succ k1 =>
   have H := HA.out
   clear HA
   simp only [spec_Bispecial.l0] at H
   by_cases c11 : x10_1 < (t406.length : Int)
   rotate_left
   ·
    rw [if_neg c11] at H
    have c11b0 : decide (x10_1 < (t406.length : Int)) = false := decide_eq_false c11
    clear c11
    simp only [Option.some.injEq, Prod.mk.injEq] at H
    obtain ⟨rfl, rfl⟩ := H
    obtain ⟨Ao23, co23, eo23⟩ := Kd.R_slice HO_7.out
    subst eo23
    go_wp2
    repeat (go_quiet (fail); try go_wp2)
    go_ret2
    exact ⟨_, qE, by (with_reducible repeat (first | apply Kd.R_alloc | apply Kd.R_drewN | apply Kd.R_drew)); exact Kd.R_mono HO_9.out (fun _ hk => trivial), qB HB.out⟩
   rw [if_pos c11] at H
   have c11b0 : decide (x10_1 < (t406.length : Int)) = true := decide_eq_true c11
   clear c11
   have H' := Aside0.mk H
   clear H
   obtain ⟨Ao12, co12, eo12⟩ := Kd.R_slice HO_7.out
   subst eo12
   go_wp2
   repeat (go_quiet (fail); try go_wp2)
   go_loopg [9, 11] k1 (fun kq v9 v11 w' => ∃ (x9_2 : List ByteArray) (x11_2 : Int), v11 = .int .i64 x11_2 ∧ Aside0 (spec_Bispecial.l1 kq t406 t409 x9_2 x10_1 x11_2 = some (r1, r2)) ∧ Aside0 (kq ≤ k1) ∧ Aside0 (Kd.R Kd.string 9 w' w.heap.size (fun k_ => some k_ ≠ (v410 : Value).ownBlock ∧ some k_ ≠ (v9 : Value).ownBlock) (.slice Ao12 t406.length co12) t406) ∧ Aside0 (Kd.R Kd.string 9 w' w.heap.size (fun k_ => some k_ ≠ ((.slice Ao12 t406.length co12) : Value).ownBlock ∧ some k_ ≠ (v9 : Value).ownBlock) v410 t409) ∧ Aside0 (Kd.R Kd.string 9 w' w.heap.size (fun k_ => some k_ ≠ ((.slice Ao12 t406.length co12) : Value).ownBlock ∧ some k_ ≠ (v410 : Value).ownBlock) v9 x9_2) ∧ Aside0 (Below w.heap.size w w'))
   case atStart => exact ⟨(x9_1), (0), qF, H', ⟨Nat.le_refl _⟩, ⟨qR HO_7.out⟩, ⟨qR HO_8.out⟩, ⟨qR HO_9.out⟩, ⟨qB HB.out⟩⟩
   case round =>
    clear H'
    obtain ⟨x9_2, x11_2, rfl, HA, HK2, HO_7, HO_8, HO_9, HB⟩ := hrel
    cases gk with
    | zero => exact absurd HA.out (by simp [spec_Bispecial.l1])
    | succ k2 =>
     have H := HA.out
     clear HA
     simp only [spec_Bispecial.l1] at H
     by_cases c13 : x11_2 < (t409.length : Int)
     rotate_left
     ·
      rw [if_neg c13] at H
      have c13b0 : decide (x11_2 < (t409.length : Int)) = false := decide_eq_false c13
      clear c13
      have H' := Aside0.mk H
      clear H
      obtain ⟨Ao22, co22, eo22⟩ := Kd.R_slice HO_8.out
      subst eo22
      go_wp2
      repeat (go_quiet (fail); try go_wp2)
      go_roundg k2
      case measure => have := HK1.out; have := HK2.out; omega
      case rel => exact ⟨(x9_2), (wrap64 (x10_1 + 1)), qF, H', ⟨by have := HK1.out; have := HK2.out; omega⟩, ⟨qR HO_7.out⟩, ⟨qR HO_8.out⟩, ⟨qR HO_9.out⟩, ⟨qB HB.out⟩⟩
     rw [if_pos c13] at H
     have c13b0 : decide (x11_2 < (t409.length : Int)) = true := decide_eq_true c13
     clear c13
     by_cases c14 : 0 ≤ x10_1
     rotate_left
     ·
      rw [if_neg c14] at H
      exact absurd H (by simp)
     rw [if_pos c14] at H
     have c14b0 : decide (0 ≤ x10_1) = true := decide_eq_true c14
     clear c14
     by_cases c15 : x10_1 < (t406.length : Int)
     rotate_left
     ·
      rw [if_neg c15] at H
      exact absurd H (by simp)
     rw [if_pos c15] at H
     have c15b0 : decide (x10_1 < (t406.length : Int)) = true := decide_eq_true c15
     clear c15
     by_cases c16 : 0 ≤ x11_2
     rotate_left
     ·
      rw [if_neg c16] at H
      exact absurd H (by simp)
     rw [if_pos c16] at H
     have c16b0 : decide (0 ≤ x11_2) = true := decide_eq_true c16
     clear c16
     by_cases c17 : (rdOf ByteArray.empty t406 x10_1).toList = (rdOf ByteArray.empty t409 x11_2).toList
     rotate_left
     ·
      rw [if_neg c17] at H
      obtain ⟨c17b0, c17b1⟩ := zF c17
      have H' := Aside0.mk H
      clear H
      obtain ⟨Ao21, co21, eo21⟩ := Kd.R_slice HO_8.out
      subst eo21
      have p415 : 0 ≤ (x10_1 : Int) := of_decide_eq_true (by first | (with_reducible assumption) | assumption)
      have q415 : x10_1 < (t406.length : Int) := of_decide_eq_true (by first | (with_reducible assumption) | assumption)
      obtain ⟨ad415, e415, hx415_0⟩ := Kd.at_string (Kd.R_reads' HO_7.out).2.2 x10_1 p415 q415
      cases e415
      replace p415 := eq_true p415
      replace q415 := eq_true q415
      have p416 : 0 ≤ (x11_2 : Int) := of_decide_eq_true (by first | (with_reducible assumption) | assumption)
      have q416 : x11_2 < (t409.length : Int) := of_decide_eq_true (by first | (with_reducible assumption) | assumption)
      obtain ⟨ad416, e416, hx416_0⟩ := Kd.at_string (Kd.R_reads' HO_8.out).2.2 x11_2 p416 q416
      cases e416
      replace p416 := eq_true p416
      replace q416 := eq_true q416
      go_wp2
      repeat (go_quiet (fail); try go_wp2)
      go_roundg k2
      case measure => have := HK1.out; have := HK2.out; omega
      case rel => exact ⟨(x9_2), (wrap64 (x11_2 + 1)), qF, H', ⟨by have := HK1.out; have := HK2.out; omega⟩, ⟨qR HO_7.out⟩, ⟨qR HO_8.out⟩, ⟨qR HO_9.out⟩, ⟨qB HB.out⟩⟩
     rw [if_pos c17] at H
     obtain ⟨c17b0, c17b1⟩ := zT c17
     clear c17
     by_cases c18 : x9_2.length < 8796093022208
     rotate_left
     ·
      rw [if_neg c18] at H
      exact absurd H (by simp)
     rw [if_pos c18] at H
     have LMc18 := Aside0.mk c18
     clear c18
     obtain ⟨y418, hy418⟩ : ∃ y_ : List ByteArray, y_ = (x9_2 ++ [rdOf ByteArray.empty t406 x10_1]) := ⟨_, rfl⟩
     replace H : (spec_Bispecial.l1 k2 t406 t409 y418 x10_1 (wrap64 (x11_2 + 1))) = some (r1, r2) := by first | (rw [hy418]; with_reducible exact H) | (have H2_ := (Option.bind_some _ _).symm.trans H; rw [hy418]; with_reducible exact H2_) | (have H2_ := (Option.bind_some _ _).symm.trans H; with_reducible exact H2_) | with_reducible exact H | (rw [hy418]; exact H) | exact H
     have Ny418 := Aside0.mk hy418
     clear hy418
     have H' := Aside0.mk H
     clear H
     obtain ⟨Ao19, co19, eo19⟩ := Kd.R_slice HO_8.out
     subst eo19
     have p415 : 0 ≤ (x10_1 : Int) := of_decide_eq_true (by first | (with_reducible assumption) | assumption)
     have q415 : x10_1 < (t406.length : Int) := of_decide_eq_true (by first | (with_reducible assumption) | assumption)
     obtain ⟨ad415, e415, hx415_0⟩ := Kd.at_string (Kd.R_reads' HO_7.out).2.2 x10_1 p415 q415
     cases e415
     replace p415 := eq_true p415
     replace q415 := eq_true q415
     have p416 : 0 ≤ (x11_2 : Int) := of_decide_eq_true (by first | (with_reducible assumption) | assumption)
     have q416 : x11_2 < (t409.length : Int) := of_decide_eq_true (by first | (with_reducible assumption) | assumption)
     obtain ⟨ad416, e416, hx416_0⟩ := Kd.at_string (Kd.R_reads' HO_8.out).2.2 x11_2 p416 q416
     cases e416
     replace p416 := eq_true p416
     replace q416 := eq_true q416
     have p417 : 0 ≤ (x10_1 : Int) := of_decide_eq_true (by first | (with_reducible assumption) | assumption)
     have q417 : x10_1 < (t406.length : Int) := of_decide_eq_true (by first | (with_reducible assumption) | assumption)
     obtain ⟨ad417, e417, hx417_0⟩ := Kd.at_string (Kd.R_reads' HO_7.out).2.2 x10_1 p417 q417
     obtain rfl : ad415 = ad417 := (by injection e417)
     replace p417 := eq_true p417
     replace q417 := eq_true q417
     go_wp2_with (first | ((with_reducible refine gate_builtin (b := .append) (xs := #[.tmp 46, .tmp 51]) rfl ?_); at_builtin; refine Kd.R_append Kd.string (w0 := w) w.heap.size rfl (.tmp 46) (.tmp 51) 26 9 (.string ⟨#[]⟩) 16 rfl Tryz.underlying26 info9 rfl (by decide) (by omega) u9 x9_2 (rdOf ByteArray.empty t406 x10_1) [.string (rdOf ByteArray.empty t406 x10_1)] (fun k_ => some k_ ≠ (.slice (some ad415) t406.length co12 : Value).ownBlock ∧ some k_ ≠ (.slice (some ad416) t409.length co19 : Value).ownBlock) (fun _ => False) rfl rfl ?aP (fun _ hk => hk.elim) ?aF ?aO ?aB ?aS ?aL ?_; (case aP => exact rfl); (case aB => exact (qB HB.out)); (case aF => exact (fun k_ hk => ⟨Kd.fresh' (Kd.R_lt (qR HO_7.out)) k_ hk, Kd.fresh' (Kd.R_lt (qR HO_8.out)) k_ hk⟩)); (case aO => exact (qR HO_9.out)); (case aS => exact (below_size (qB HB.out))); (case aL => have := LMc18.out; omega); intro v419 w20 ho hb hg hat; rw [← Ny418.out] at ho; replace HO_7 := Aside0.mk (Kd.R_after (ok := (fun k_ => some k_ ≠ (.slice (some ad416) t409.length co19 : Value).ownBlock)) (qR HO_7.out) hg hat); replace HO_8 := Aside0.mk (Kd.R_after (ok := (fun k_ => some k_ ≠ (.slice (some ad415) t406.length co12 : Value).ownBlock)) (qR HO_8.out) hg hat); replace HB := Aside0.mk (hb); have HO420 := Aside0.mk (ho); clear HO_9; clear ho hb hg hat))
     repeat (go_quiet (first | ((with_reducible refine gate_builtin (b := .append) (xs := #[.tmp 46, .tmp 51]) rfl ?_); at_builtin; refine Kd.R_append Kd.string (w0 := w) w.heap.size rfl (.tmp 46) (.tmp 51) 26 9 (.string ⟨#[]⟩) 16 rfl Tryz.underlying26 info9 rfl (by decide) (by omega) u9 x9_2 (rdOf ByteArray.empty t406 x10_1) [.string (rdOf ByteArray.empty t406 x10_1)] (fun k_ => some k_ ≠ (.slice (some ad415) t406.length co12 : Value).ownBlock ∧ some k_ ≠ (.slice (some ad416) t409.length co19 : Value).ownBlock) (fun _ => False) rfl rfl ?aP (fun _ hk => hk.elim) ?aF ?aO ?aB ?aS ?aL ?_; (case aP => exact rfl); (case aB => exact (qB HB.out)); (case aF => exact (fun k_ hk => ⟨Kd.fresh' (Kd.R_lt (qR HO_7.out)) k_ hk, Kd.fresh' (Kd.R_lt (qR HO_8.out)) k_ hk⟩)); (case aO => exact (qR HO_9.out)); (case aS => exact (below_size (qB HB.out))); (case aL => have := LMc18.out; omega); intro v419 w20 ho hb hg hat; rw [← Ny418.out] at ho; replace HO_7 := Aside0.mk (Kd.R_after (ok := (fun k_ => some k_ ≠ (.slice (some ad416) t409.length co19 : Value).ownBlock)) (qR HO_7.out) hg hat); replace HO_8 := Aside0.mk (Kd.R_after (ok := (fun k_ => some k_ ≠ (.slice (some ad415) t406.length co12 : Value).ownBlock)) (qR HO_8.out) hg hat); replace HB := Aside0.mk (hb); have HO420 := Aside0.mk (ho); clear HO_9; clear ho hb hg hat)); try go_wp2_with (first | ((with_reducible refine gate_builtin (b := .append) (xs := #[.tmp 46, .tmp 51]) rfl ?_); at_builtin; refine Kd.R_append Kd.string (w0 := w) w.heap.size rfl (.tmp 46) (.tmp 51) 26 9 (.string ⟨#[]⟩) 16 rfl Tryz.underlying26 info9 rfl (by decide) (by omega) u9 x9_2 (rdOf ByteArray.empty t406 x10_1) [.string (rdOf ByteArray.empty t406 x10_1)] (fun k_ => some k_ ≠ (.slice (some ad415) t406.length co12 : Value).ownBlock ∧ some k_ ≠ (.slice (some ad416) t409.length co19 : Value).ownBlock) (fun _ => False) rfl rfl ?aP (fun _ hk => hk.elim) ?aF ?aO ?aB ?aS ?aL ?_; (case aP => exact rfl); (case aB => exact (qB HB.out)); (case aF => exact (fun k_ hk => ⟨Kd.fresh' (Kd.R_lt (qR HO_7.out)) k_ hk, Kd.fresh' (Kd.R_lt (qR HO_8.out)) k_ hk⟩)); (case aO => exact (qR HO_9.out)); (case aS => exact (below_size (qB HB.out))); (case aL => have := LMc18.out; omega); intro v419 w20 ho hb hg hat; rw [← Ny418.out] at ho; replace HO_7 := Aside0.mk (Kd.R_after (ok := (fun k_ => some k_ ≠ (.slice (some ad416) t409.length co19 : Value).ownBlock)) (qR HO_7.out) hg hat); replace HO_8 := Aside0.mk (Kd.R_after (ok := (fun k_ => some k_ ≠ (.slice (some ad415) t406.length co12 : Value).ownBlock)) (qR HO_8.out) hg hat); replace HB := Aside0.mk (hb); have HO420 := Aside0.mk (ho); clear HO_9; clear ho hb hg hat)))
     go_roundg k2
     case measure => have := HK1.out; have := HK2.out; omega
     case rel => exact ⟨(y418), (wrap64 (x11_2 + 1)), qF, H', ⟨by have := HK1.out; have := HK2.out; omega⟩, ⟨qR HO_7.out⟩, ⟨qR HO_8.out⟩, ⟨qR HO420.out⟩, ⟨qB HB.out⟩⟩
end Go.Proofs.YtgfnkdoennbipaaGreat.PF

namespace Go.Proofs.YtgfnkdoennbipaaGreat.PF
open Go.RowKit Go.Proofs.YtgfnkdoennbipaaGreatW.PrintWords Go.Proofs.YtgfnkdoennbipaaGreatW.PrintLast Go.Proofs.YtgfnkdoennbipaaGreatW.PrintMore
attribute [local go_sem] max2_int min2_int max_two min_two max_three min_three max_four min_four   -- for this text's walks alone
set_option linter.unusedVariables false
set_option linter.unusedSimpArgs false

/-! ### spec_RightSpecial: function 9 -/
def spec_RightSpecial.f (k : Nat) (a0 : ByteArray) (a1 : Int) : Option (List ByteArray × Int) := (spec_l05Code.f k a0 a1).bind fun t421 => (if t421 = 0 then ((spec_l05Special.f k a0 a1 true).bind fun t422 => (some (t422, 0))) else (some (([] : List ByteArray), t421)))
theorem spec_RightSpecial.mono : ∀ a0 a1 k, LeO (spec_RightSpecial.f k a0 a1) (spec_RightSpecial.f (k + 1) a0 a1) := by
 intro a0 a1 k
 unfold spec_RightSpecial.f
 with_reducible repeat' first
   | exact spec_l05Code.mono _ _ _
   | exact spec_l05Special.mono _ _ _ _
   | exact LeO.refl _
   | exact LeO.none _
   | refine LeO.ite ?_ ?_
   | refine LeO.bind ?_ (fun _ => ?_)
set_option maxHeartbeats 8000000 in
set_option maxRecDepth 100000 in
theorem spec_RightSpecial.calls (k : Nat) (a0 : ByteArray) (a1 : Int) (r1 : List ByteArray) (r2 : Int) (w : World) (h : spec_RightSpecial.f k a0 a1 = some (r1, r2)) :
  Calls Tryz.prog 9 #[.string a0, .int .i64 a1] w fun e w' => ∃ v0_ : Value, e = .returned (.tuple #[v0_, .int .i64 r2]) ∧ Kd.R Kd.string 9 w' w.heap.size (fun _ => True) v0_ r1 ∧ Below w.heap.size w w' := by
 have HB := Aside0.mk (Below.refl w.heap.size w)
 have H : ((spec_l05Code.f k a0 a1).bind fun t421 => (if t421 = 0 then ((spec_l05Special.f k a0 a1 true).bind fun t422 => (some (t422, 0))) else (some (([] : List ByteArray), t421)))) = some (r1, r2) := h
 clear h
 replace H := qN H
 obtain ⟨t421, A3, H⟩ := H
 try dsimp only at H
 by_cases c4 : t421 = 0
 rotate_left
 ·
  rw [if_neg c4] at H
  obtain ⟨c4b0, c4b1⟩ := zF c4
  simp only [Option.some.injEq, Prod.mk.injEq] at H
  obtain ⟨rfl, rfl⟩ := H
  go_enter Tryz.func9, Tryz.ntmps9
  go_wp2_with (first | ((with_reducible refine gate_callee (f := 33) rfl ?_); refine goesL_ (some 9) rfl rfl Tryz.func33 (by kernel_rfl) rfl #[.string a0, .int .i64 a1] rfl qV ?_; (with_reducible refine (spec_l05Code.calls k a0 a1 t421 _ A3.out).mono ?_); rintro e w' ⟨rfl, ⟨nd, rfl⟩⟩; refine ⟨_, rfl, ?_⟩))
  go_ret2
  exact ⟨_, qE, by first | exact Kd.R_nil _ _ _ _ _ | exact Kd.N_nil _ _ _ _ _ | exact Kd.V_nil _ _ _ _ _ | exact Kd.Q_nil _ _ _ _ _ | exact Kd.S_nil _ _ _ _ _, qB HB.out⟩

 rw [if_pos c4] at H
 obtain ⟨c4b0, c4b1⟩ := zT c4
 clear c4
 replace H := qN H
 obtain ⟨t422, A5, H⟩ := H
 try dsimp only at H
 simp only [Option.some.injEq, Prod.mk.injEq] at H
 obtain ⟨rfl, rfl⟩ := H
 go_enter Tryz.func9, Tryz.ntmps9
 go_wp2_with (first | ((with_reducible refine gate_callee (f := 33) rfl ?_); refine goesL_ (some 9) rfl rfl Tryz.func33 (by kernel_rfl) rfl #[.string a0, .int .i64 a1] rfl qV ?_; (with_reducible refine (spec_l05Code.calls k a0 a1 t421 _ A3.out).mono ?_); rintro e w' ⟨rfl, ⟨nd, rfl⟩⟩; refine ⟨_, rfl, ?_⟩) | ((with_reducible refine gate_callee (f := 34) rfl ?_); refine goesL_ (some 15) rfl rfl Tryz.func34 (by kernel_rfl) rfl #[.string a0, .int .i64 a1, .bool true] rfl qV ?_; (with_reducible refine (spec_l05Special.calls k a0 a1 true t422 _ A5.out).mono ?_); rintro e w6 ⟨v423, rfl, ho0, hb⟩; refine ⟨_, rfl, ?_⟩; have HO424 := Aside0.mk (Kd.R_lower ho0 (below_size (qB HB.out))); replace HB := Aside0.mk (below_step (qB HB.out) hb)))
 go_ret2
 exact ⟨_, qE, qR HO424.out, qB HB.out⟩
end Go.Proofs.YtgfnkdoennbipaaGreat.PF

namespace Go.Proofs.YtgfnkdoennbipaaGreat.PF
open Go.RowKit Go.Proofs.YtgfnkdoennbipaaGreatW.PrintWords Go.Proofs.YtgfnkdoennbipaaGreatW.PrintLast Go.Proofs.YtgfnkdoennbipaaGreatW.PrintMore
attribute [local go_sem] max2_int min2_int max_two min_two max_three min_three max_four min_four   -- for this text's walks alone
set_option linter.unusedVariables false
set_option linter.unusedSimpArgs false

/-! ### spec_LeftSpecial: function 11 -/
def spec_LeftSpecial.f (k : Nat) (a0 : ByteArray) (a1 : Int) : Option (List ByteArray × Int) := (spec_l05Code.f k a0 a1).bind fun t425 => (if t425 = 0 then ((spec_l05Special.f k a0 a1 false).bind fun t426 => (some (t426, 0))) else (some (([] : List ByteArray), t425)))
theorem spec_LeftSpecial.mono : ∀ a0 a1 k, LeO (spec_LeftSpecial.f k a0 a1) (spec_LeftSpecial.f (k + 1) a0 a1) := by
 intro a0 a1 k
 unfold spec_LeftSpecial.f
 with_reducible repeat' first
   | exact spec_l05Code.mono _ _ _
   | exact spec_l05Special.mono _ _ _ _
   | exact LeO.refl _
   | exact LeO.none _
   | refine LeO.ite ?_ ?_
   | refine LeO.bind ?_ (fun _ => ?_)
set_option maxHeartbeats 8000000 in
set_option maxRecDepth 100000 in
theorem spec_LeftSpecial.calls (k : Nat) (a0 : ByteArray) (a1 : Int) (r1 : List ByteArray) (r2 : Int) (w : World) (h : spec_LeftSpecial.f k a0 a1 = some (r1, r2)) :
  Calls Tryz.prog 11 #[.string a0, .int .i64 a1] w fun e w' => ∃ v0_ : Value, e = .returned (.tuple #[v0_, .int .i64 r2]) ∧ Kd.R Kd.string 9 w' w.heap.size (fun _ => True) v0_ r1 ∧ Below w.heap.size w w' := by
 have HB := Aside0.mk (Below.refl w.heap.size w)
 have H : ((spec_l05Code.f k a0 a1).bind fun t425 => (if t425 = 0 then ((spec_l05Special.f k a0 a1 false).bind fun t426 => (some (t426, 0))) else (some (([] : List ByteArray), t425)))) = some (r1, r2) := h
 clear h
 replace H := qN H
 obtain ⟨t425, A3, H⟩ := H
 try dsimp only at H
 by_cases c4 : t425 = 0
 rotate_left
 ·
  rw [if_neg c4] at H
  obtain ⟨c4b0, c4b1⟩ := zF c4
  simp only [Option.some.injEq, Prod.mk.injEq] at H
  obtain ⟨rfl, rfl⟩ := H
  go_enter Tryz.func11, Tryz.ntmps11
  go_wp2_with (first | ((with_reducible refine gate_callee (f := 33) rfl ?_); refine goesL_ (some 9) rfl rfl Tryz.func33 (by kernel_rfl) rfl #[.string a0, .int .i64 a1] rfl qV ?_; (with_reducible refine (spec_l05Code.calls k a0 a1 t425 _ A3.out).mono ?_); rintro e w' ⟨rfl, ⟨nd, rfl⟩⟩; refine ⟨_, rfl, ?_⟩))
  go_ret2
  exact ⟨_, qE, by first | exact Kd.R_nil _ _ _ _ _ | exact Kd.N_nil _ _ _ _ _ | exact Kd.V_nil _ _ _ _ _ | exact Kd.Q_nil _ _ _ _ _ | exact Kd.S_nil _ _ _ _ _, qB HB.out⟩

 rw [if_pos c4] at H
 obtain ⟨c4b0, c4b1⟩ := zT c4
 clear c4
 replace H := qN H
 obtain ⟨t426, A5, H⟩ := H
 try dsimp only at H
 simp only [Option.some.injEq, Prod.mk.injEq] at H
 obtain ⟨rfl, rfl⟩ := H
 go_enter Tryz.func11, Tryz.ntmps11
 go_wp2_with (first | ((with_reducible refine gate_callee (f := 33) rfl ?_); refine goesL_ (some 9) rfl rfl Tryz.func33 (by kernel_rfl) rfl #[.string a0, .int .i64 a1] rfl qV ?_; (with_reducible refine (spec_l05Code.calls k a0 a1 t425 _ A3.out).mono ?_); rintro e w' ⟨rfl, ⟨nd, rfl⟩⟩; refine ⟨_, rfl, ?_⟩) | ((with_reducible refine gate_callee (f := 34) rfl ?_); refine goesL_ (some 15) rfl rfl Tryz.func34 (by kernel_rfl) rfl #[.string a0, .int .i64 a1, .bool false] rfl qV ?_; (with_reducible refine (spec_l05Special.calls k a0 a1 false t426 _ A5.out).mono ?_); rintro e w6 ⟨v427, rfl, ho0, hb⟩; refine ⟨_, rfl, ?_⟩; have HO428 := Aside0.mk (Kd.R_lower ho0 (below_size (qB HB.out))); replace HB := Aside0.mk (below_step (qB HB.out) hb)))
 go_ret2
 exact ⟨_, qE, qR HO428.out, qB HB.out⟩
end Go.Proofs.YtgfnkdoennbipaaGreat.PF

namespace Go.Proofs.YtgfnkdoennbipaaGreat.PF
open Go.RowKit Go.Proofs.YtgfnkdoennbipaaGreatW.PrintWords Go.Proofs.YtgfnkdoennbipaaGreatW.PrintLast Go.Proofs.YtgfnkdoennbipaaGreatW.PrintMore
attribute [local go_sem] max2_int min2_int max_two min_two max_three min_three max_four min_four   -- for this text's walks alone
set_option linter.unusedVariables false
set_option linter.unusedSimpArgs false

/-! ### impl_FactorEdges_1: function 42 -/
def impl_FactorEdges_1.f (a0 : Int) : Option (Bool) := (impl_isLength.f a0).bind fun t430 => (some t430)
set_option maxHeartbeats 8000000 in
set_option maxRecDepth 100000 in
theorem impl_FactorEdges_1.calls (g0 : Nat) (a0 : Int) (r : Bool) (w : World) (hb0 : w.heap[g0]? = some (.cells #[.int .i64 a0] 2 (0, 0))) (h : impl_FactorEdges_1.f a0 = some r) :
  Calls Tryz.prog 42 #[.pointer (some ⟨g0, 0, none⟩)] w fun e w' => e = .returned (.bool r) ∧ Drawn0 w w' := by
 have BK429 := Aside0.mk hb0
 clear hb0
 have H : ((impl_isLength.f a0).bind fun t430 => (some t430)) = some r := h
 clear h
 replace H := qN H
 obtain ⟨t430, A2, H⟩ := H
 try dsimp only at H
 obtain rfl := Option.some.inj H
 have hcz3_0 : w.cell? ⟨g0, 0, none⟩ = some (.int .i64 a0) := (blk_cell BK429.out 0).trans rfl
 have hfz3_0 := blk_frozen BK429.out 0
 go_enter Tryz.func42, Tryz.ntmps42
 go_wp2_with (first | ((with_reducible refine gate_callee (f := 37) rfl ?_); refine goesL_ (some 3) rfl rfl Tryz.func37 (by kernel_rfl) rfl #[.int .i64 a0] rfl qV ?_; (with_reducible refine (impl_isLength.calls a0 t430 _ A2.out).mono ?_); rintro e w' ⟨rfl, ⟨nd, rfl⟩⟩; refine ⟨_, rfl, ?_⟩))
 go_ret
 exact ⟨by first | rfl | (simp; done) | (simp [*]; done) | (simp; rw [Bool.eq_iff_iff]; simp; done), by repeat (first | exact Drawn0.refl _ | apply Drawn0.step)⟩

end Go.Proofs.YtgfnkdoennbipaaGreat.PF

namespace Go.Proofs.YtgfnkdoennbipaaGreat.PF
open Go.RowKit Go.Proofs.YtgfnkdoennbipaaGreatW.PrintWords Go.Proofs.YtgfnkdoennbipaaGreatW.PrintLast Go.Proofs.YtgfnkdoennbipaaGreatW.PrintMore
attribute [local go_sem] max2_int min2_int max_two min_two max_three min_three max_four min_four   -- for this text's walks alone
set_option linter.unusedVariables false
set_option linter.unusedSimpArgs false

/-! ### cmp_isNaN_string: function 88 -/
def cmp_isNaN_string.f (a0 : ByteArray) : Option (Bool) := some (a0.toList != a0.toList)
set_option maxHeartbeats 8000000 in
set_option maxRecDepth 100000 in
theorem cmp_isNaN_string.calls (a0 : ByteArray) (r : Bool) (w : World) (h : cmp_isNaN_string.f a0 = some r) :
  Calls Tryz.prog 88 #[.string a0] w fun e w' => e = .returned (.bool r) ∧ Drawn0 w w' := by
 have H : (some (a0.toList != a0.toList)) = some r := h
 clear h
 obtain rfl := Option.some.inj H
 go_enter Tryz.func88, Tryz.ntmps88
 go_wp2
 go_ret
 exact ⟨by first | rfl | (simp; done) | (simp [*]; done) | (simp; rw [Bool.eq_iff_iff]; simp; done), by repeat (first | exact Drawn0.refl _ | apply Drawn0.step)⟩

end Go.Proofs.YtgfnkdoennbipaaGreat.PF

namespace Go.Proofs.YtgfnkdoennbipaaGreat.PF
open Go.RowKit Go.Proofs.YtgfnkdoennbipaaGreatW.PrintWords Go.Proofs.YtgfnkdoennbipaaGreatW.PrintLast Go.Proofs.YtgfnkdoennbipaaGreatW.PrintMore
attribute [local go_sem] max2_int min2_int max_two min_two max_three min_three max_four min_four   -- for this text's walks alone
set_option linter.unusedVariables false
set_option linter.unusedSimpArgs false

/-! ### cmp_Less_string: function 75 -/
def cmp_Less_string.f (a0 : ByteArray) (a1 : ByteArray) : Option (Bool) := (cmp_isNaN_string.f a0).bind fun t431 => (if t431 = true then ((cmp_isNaN_string.f a1).bind fun t432 => (if t432 = true then (some (Op.bytesLess a0.toList a1.toList)) else (some true))) else (some (Op.bytesLess a0.toList a1.toList)))
set_option maxHeartbeats 8000000 in
set_option maxRecDepth 100000 in
theorem cmp_Less_string.calls (a0 : ByteArray) (a1 : ByteArray) (r : Bool) (w : World) (h : cmp_Less_string.f a0 a1 = some r) :
  Calls Tryz.prog 75 #[.string a0, .string a1] w fun e w' => e = .returned (.bool r) ∧ Drawn0 w w' := by
 have H : ((cmp_isNaN_string.f a0).bind fun t431 => (if t431 = true then ((cmp_isNaN_string.f a1).bind fun t432 => (if t432 = true then (some (Op.bytesLess a0.toList a1.toList)) else (some true))) else (some (Op.bytesLess a0.toList a1.toList)))) = some r := h
 clear h
 replace H := qN H
 obtain ⟨t431, A3, H⟩ := H
 try dsimp only at H
 by_cases c4 : t431 = true
 rotate_left
 ·
  replace c4 := Bool.eq_false_iff.mpr c4
  subst c4
  rw [if_neg (show ¬ (false = true) by decide)] at H
  obtain rfl := Option.some.inj H
  go_enter Tryz.func75, Tryz.ntmps75
  go_wp2_with (first | ((with_reducible refine gate_callee (f := 88) rfl ?_); refine goesL_ (some 6) rfl rfl Tryz.func88 (by kernel_rfl) rfl #[.string a0] rfl qV ?_; (with_reducible refine (cmp_isNaN_string.calls a0 false _ A3.out).mono ?_); rintro e w' ⟨rfl, ⟨nd, rfl⟩⟩; refine ⟨_, rfl, ?_⟩))
  go_ret
  exact ⟨by first | rfl | (simp; done) | (simp [*]; done) | (simp; rw [Bool.eq_iff_iff]; simp; done), by repeat (first | exact Drawn0.refl _ | apply Drawn0.step)⟩

 subst c4
 rw [if_pos rfl] at H
 replace H := qN H
 obtain ⟨t432, A5, H⟩ := H
 try dsimp only at H
 by_cases c6 : t432 = true
 ·
  subst c6
  rw [if_pos rfl] at H
  obtain rfl := Option.some.inj H
  go_enter Tryz.func75, Tryz.ntmps75
  go_wp2_with (first | ((with_reducible refine gate_callee (f := 88) rfl ?_); refine goesL_ (some 6) rfl rfl Tryz.func88 (by kernel_rfl) rfl #[.string a0] rfl qV ?_; (with_reducible refine (cmp_isNaN_string.calls a0 true _ A3.out).mono ?_); rintro e w' ⟨rfl, ⟨nd, rfl⟩⟩; refine ⟨_, rfl, ?_⟩) | (go_at_call 88; (with_reducible refine (cmp_isNaN_string.calls a1 true _ A5.out).mono ?_); rintro e w' ⟨rfl, ⟨nd, rfl⟩⟩))
  go_ret
  exact ⟨by first | rfl | (simp; done) | (simp [*]; done) | (simp; rw [Bool.eq_iff_iff]; simp; done), by repeat (first | exact Drawn0.refl _ | apply Drawn0.step)⟩
 replace c6 := Bool.eq_false_iff.mpr c6
 subst c6
 rw [if_neg (show ¬ (false = true) by decide)] at H
 obtain rfl := Option.some.inj H
 go_enter Tryz.func75, Tryz.ntmps75
 go_wp2_with (first | ((with_reducible refine gate_callee (f := 88) rfl ?_); refine goesL_ (some 6) rfl rfl Tryz.func88 (by kernel_rfl) rfl #[.string a0] rfl qV ?_; (with_reducible refine (cmp_isNaN_string.calls a0 true _ A3.out).mono ?_); rintro e w' ⟨rfl, ⟨nd, rfl⟩⟩; refine ⟨_, rfl, ?_⟩) | (go_at_call 88; (with_reducible refine (cmp_isNaN_string.calls a1 false _ A5.out).mono ?_); rintro e w' ⟨rfl, ⟨nd, rfl⟩⟩))
 go_ret
 exact ⟨by first | rfl | (simp; done) | (simp [*]; done) | (simp; rw [Bool.eq_iff_iff]; simp; done), by repeat (first | exact Drawn0.refl _ | apply Drawn0.step)⟩
end Go.Proofs.YtgfnkdoennbipaaGreat.PF

namespace Go.Proofs.YtgfnkdoennbipaaGreat.PF
open Go.RowKit Go.Proofs.YtgfnkdoennbipaaGreatW.PrintWords Go.Proofs.YtgfnkdoennbipaaGreatW.PrintLast Go.Proofs.YtgfnkdoennbipaaGreatW.PrintMore
attribute [local go_sem] max2_int min2_int max_two min_two max_three min_three max_four min_four   -- for this text's walks alone
set_option linter.unusedVariables false
set_option linter.unusedSimpArgs false

/-! ### slices_isNaN_string: function 76 -/
def slices_isNaN_string.f (a0 : ByteArray) : Option (Bool) := some (a0.toList != a0.toList)
set_option maxHeartbeats 8000000 in
set_option maxRecDepth 100000 in
theorem slices_isNaN_string.calls (a0 : ByteArray) (r : Bool) (w : World) (h : slices_isNaN_string.f a0 = some r) :
  Calls Tryz.prog 76 #[.string a0] w fun e w' => e = .returned (.bool r) ∧ Drawn0 w w' := by
 have H : (some (a0.toList != a0.toList)) = some r := h
 clear h
 obtain rfl := Option.some.inj H
 go_enter Tryz.func76, Tryz.ntmps76
 go_wp2
 go_ret
 exact ⟨by first | rfl | (simp; done) | (simp [*]; done) | (simp; rw [Bool.eq_iff_iff]; simp; done), by repeat (first | exact Drawn0.refl _ | apply Drawn0.step)⟩

end Go.Proofs.YtgfnkdoennbipaaGreat.PF

namespace Go.Proofs.YtgfnkdoennbipaaGreat.PF
open Go.RowKit Go.Proofs.YtgfnkdoennbipaaGreatW.PrintWords Go.Proofs.YtgfnkdoennbipaaGreatW.PrintLast Go.Proofs.YtgfnkdoennbipaaGreatW.PrintMore
attribute [local go_sem] max2_int min2_int max_two min_two max_three min_three max_four min_four   -- for this text's walks alone
set_option linter.unusedVariables false
set_option linter.unusedSimpArgs false

/-! ### slices_BinarySearch_string_string: function 44 -/
def slices_BinarySearch_string_string.l0 : Nat → List ByteArray → ByteArray → Int → Int → Int → Option (Int × Bool)
 | 0, _, _, _, _, _ => none
 | k + 1, x0, x1, x6, x7, x8 => if x7 < x8 then (if 0 ≤ (wrap64 ((IntKind.u64.wrap (wrap64 (x7 + x8))) / 2)) then (if (wrap64 ((IntKind.u64.wrap (wrap64 (x7 + x8))) / 2)) < (x0.length : Int) then ((cmp_Less_string.f (rdOf ByteArray.empty x0 (wrap64 ((IntKind.u64.wrap (wrap64 (x7 + x8))) / 2))) x1).bind fun t434 => (if t434 = true then (slices_BinarySearch_string_string.l0 k x0 x1 x6 (wrap64 ((wrap64 ((IntKind.u64.wrap (wrap64 (x7 + x8))) / 2)) + 1)) x8) else (slices_BinarySearch_string_string.l0 k x0 x1 x6 x7 (wrap64 ((IntKind.u64.wrap (wrap64 (x7 + x8))) / 2))))) else (none)) else (none)) else (if x7 < x6 then (if 0 ≤ x7 then (if x7 < (x0.length : Int) then (if (rdOf ByteArray.empty x0 x7).toList = x1.toList then (some (x7, true)) else ((slices_isNaN_string.f (rdOf ByteArray.empty x0 x7)).bind fun t437 => (if t437 = true then ((slices_isNaN_string.f x1).bind fun t438 => (some (x7, t438))) else (some (x7, false))))) else (none)) else (none)) else (some (x7, false)))
def slices_BinarySearch_string_string.f (k : Nat) (l0 : List ByteArray) (a1 : ByteArray) : Option (Int × Bool) := slices_BinarySearch_string_string.l0 k l0 a1 (l0.length : Int) 0 (l0.length : Int)
theorem slices_BinarySearch_string_string.mono_l : ∀ k, (∀ y0 y1 y2 y3 y4, LeO (slices_BinarySearch_string_string.l0 k y0 y1 y2 y3 y4) (slices_BinarySearch_string_string.l0 (k + 1) y0 y1 y2 y3 y4))
 | 0 => fun _ _ _ _ _ r h => by simp [slices_BinarySearch_string_string.l0] at h
 | k + 1 => by
  have ih0 := slices_BinarySearch_string_string.mono_l k
  ·
   intro y0 y1 y2 y3 y4
   unfold slices_BinarySearch_string_string.l0
   with_reducible repeat' first
   | exact ih0 _ _ _ _ _
   | exact LeO.refl _
   | exact LeO.none _
   | refine LeO.ite ?_ ?_
   | refine LeO.bind ?_ (fun _ => ?_)
theorem slices_BinarySearch_string_string.mono : ∀ a0 a1 k, LeO (slices_BinarySearch_string_string.f k a0 a1) (slices_BinarySearch_string_string.f (k + 1) a0 a1) := by
 intro a0 a1 k
 have ih0 := slices_BinarySearch_string_string.mono_l k
 unfold slices_BinarySearch_string_string.f
 with_reducible repeat' first
   | exact ih0 _ _ _ _ _
   | exact LeO.refl _
   | exact LeO.none _
   | refine LeO.ite ?_ ?_
   | refine LeO.bind ?_ (fun _ => ?_)
set_option maxHeartbeats 8000000 in
set_option maxRecDepth 100000 in
theorem slices_BinarySearch_string_string.calls (k : Nat) (A0 : Option Addr) (c0 : Nat) (l0 : List ByteArray) (a1 : ByteArray) (r1 : Int) (r2 : Bool) (w : World) (hr0 : Kd.C Kd.string w A0 l0.length l0) (hc0 : l0.length ≤ c0) (h : slices_BinarySearch_string_string.f k l0 a1 = some (r1, r2)) :
  Calls Tryz.prog 44 #[.slice A0 l0.length c0, .string a1] w fun e w' => e = .returned (.tuple #[.int .i64 r1, .bool r2]) ∧ Drawn0 w w' := by
 have HR0 := Aside0.mk hr0
 have HC0 := Aside0.mk hc0
 clear hr0 hc0
 have H : (slices_BinarySearch_string_string.l0 k l0 a1 (l0.length : Int) 0 (l0.length : Int)) = some (r1, r2) := h
 clear h
 have H' := Aside0.mk H
 clear H
 go_enter Tryz.func44, Tryz.ntmps44
 go_wp2
 go_loopg [7, 8] k (fun kq v7 v8 w' => ∃ (x7_1 : Int) (x8_1 : Int), v7 = .int .i64 x7_1 ∧ v8 = .int .i64 x8_1 ∧ Aside0 (slices_BinarySearch_string_string.l0 kq l0 a1 (l0.length : Int) x7_1 x8_1 = some (r1, r2)) ∧ Aside0 (kq ≤ k) ∧ Drawn0 w w')
 case atStart => exact ⟨(0), ((l0.length : Int)), qF, qF, H', ⟨Nat.le_refl _⟩, by repeat (first | exact Drawn0.refl _ | apply Drawn0.step)⟩
 case round =>
  clear H'
  obtain ⟨x7_1, x8_1, rfl, rfl, HA, HK1, ⟨m1, rfl⟩⟩ := hrel
  cases gk with
  | zero => exact absurd HA.out (by simp [slices_BinarySearch_string_string.l0])
  | succ k1 =>
   have H := HA.out
   clear HA
   simp only [slices_BinarySearch_string_string.l0] at H
   by_cases c3 : x7_1 < x8_1
   ·
    rw [if_pos c3] at H
    have c3b0 : decide (x7_1 < x8_1) = true := decide_eq_true c3
    clear c3
    obtain ⟨ji4, hji4⟩ : ∃ j_ : Int, (wrap64 ((IntKind.u64.wrap (wrap64 (x7_1 + x8_1))) / 2)) = j_ := ⟨_, rfl⟩
    replace H : (if 0 ≤ (ji4) then (if (ji4) < (l0.length : Int) then ((cmp_Less_string.f (rdOf ByteArray.empty l0 (ji4)) a1).bind fun t434 => (if t434 = true then (slices_BinarySearch_string_string.l0 k1 l0 a1 (l0.length : Int) (wrap64 ((ji4) + 1)) x8_1) else (slices_BinarySearch_string_string.l0 k1 l0 a1 (l0.length : Int) x7_1 ji4))) else (none)) else (none)) = some (r1, r2) := by first | (rw [hji4] at H; exact H) | (simp only [hji4] at H ⊢; exact H)
    have hji4w : (IntKind.i64.wrap ((IntKind.u64.wrap (wrap64 (x7_1 + x8_1))) / 2)) = ji4 := (i64_w _).trans hji4
    by_cases c5 : 0 ≤ (ji4)
    rotate_left
    ·
     rw [if_neg c5] at H
     exact absurd H (by simp)
    rw [if_pos c5] at H
    have c5b0 : decide (0 ≤ (ji4)) = true := decide_eq_true c5
    clear c5
    by_cases c6 : (ji4) < (l0.length : Int)
    rotate_left
    ·
     rw [if_neg c6] at H
     exact absurd H (by simp)
    rw [if_pos c6] at H
    have c6b0 : decide ((ji4) < (l0.length : Int)) = true := decide_eq_true c6
    clear c6
    replace H := qN H
    obtain ⟨t434, A7, H⟩ := H
    try dsimp only at H
    by_cases c8 : t434 = true
    ·
     subst c8
     rw [if_pos rfl] at H
     have H' := Aside0.mk H
     clear H
     have p433 : 0 ≤ ((ji4) : Int) := of_decide_eq_true (by first | (with_reducible assumption) | assumption)
     have q433 : (ji4) < (l0.length : Int) := of_decide_eq_true (by first | (with_reducible assumption) | assumption)
     obtain ⟨ad433, e433, hx433_0⟩ := Kd.at_string HR0.out (ji4) p433 q433
     cases e433
     replace p433 := eq_true p433
     replace q433 := eq_true q433
     go_wp2_with (first | ((with_reducible refine gate_callee (f := 75) rfl ?_); refine goesL_ (some 27) rfl rfl Tryz.func75 (by kernel_rfl) rfl #[.string (rdOf ByteArray.empty l0 (ji4)), .string a1] rfl (by (try simp only [List.map_toArray, List.map_cons, List.map_nil]); first | done | (simp only [hji4]; rfl) | rfl | (simp only [List.length_drop, List.length_take]; rfl)) ?_; (with_reducible refine (cmp_Less_string.calls (rdOf ByteArray.empty l0 (ji4)) a1 true _ A7.out).mono ?_); rintro e w' ⟨rfl, ⟨nd, rfl⟩⟩; refine ⟨_, rfl, ?_⟩))
     go_roundg k1
     case measure => have := HK1.out; omega
     case rel => exact ⟨(wrap64 ((ji4) + 1)), (x8_1), (by first | rfl | (simp; done) | (simp only [← hji4] <;> (first | rfl | simp)) | (simp [*]; done)), qF, H', ⟨by have := HK1.out; omega⟩, by repeat (first | exact Drawn0.refl _ | apply Drawn0.step)⟩
    replace c8 := Bool.eq_false_iff.mpr c8
    subst c8
    rw [if_neg (show ¬ (false = true) by decide)] at H
    have H' := Aside0.mk H
    clear H
    have p433 : 0 ≤ ((ji4) : Int) := of_decide_eq_true (by first | (with_reducible assumption) | assumption)
    have q433 : (ji4) < (l0.length : Int) := of_decide_eq_true (by first | (with_reducible assumption) | assumption)
    obtain ⟨ad433, e433, hx433_0⟩ := Kd.at_string HR0.out (ji4) p433 q433
    cases e433
    replace p433 := eq_true p433
    replace q433 := eq_true q433
    go_wp2_with (first | ((with_reducible refine gate_callee (f := 75) rfl ?_); refine goesL_ (some 27) rfl rfl Tryz.func75 (by kernel_rfl) rfl #[.string (rdOf ByteArray.empty l0 (ji4)), .string a1] rfl (by (try simp only [List.map_toArray, List.map_cons, List.map_nil]); first | done | (simp only [hji4]; rfl) | rfl | (simp only [List.length_drop, List.length_take]; rfl)) ?_; (with_reducible refine (cmp_Less_string.calls (rdOf ByteArray.empty l0 (ji4)) a1 false _ A7.out).mono ?_); rintro e w' ⟨rfl, ⟨nd, rfl⟩⟩; refine ⟨_, rfl, ?_⟩))
    go_roundg k1
    case measure => have := HK1.out; omega
    case rel => exact ⟨(x7_1), (ji4), qF, (by first | rfl | (simp; done) | (simp only [← hji4] <;> (first | rfl | simp)) | (simp [*]; done)), H', ⟨by have := HK1.out; omega⟩, by repeat (first | exact Drawn0.refl _ | apply Drawn0.step)⟩
   rw [if_neg c3] at H
   have c3b0 : decide (x7_1 < x8_1) = false := decide_eq_false c3
   clear c3
   by_cases c9 : x7_1 < (l0.length : Int)
   rotate_left
   ·
    rw [if_neg c9] at H
    have c9b0 : decide (x7_1 < (l0.length : Int)) = false := decide_eq_false c9
    clear c9
    simp only [Option.some.injEq, Prod.mk.injEq] at H
    obtain ⟨rfl, rfl⟩ := H
    go_wp2
    go_ret2
    exact ⟨by first | rfl | (simp; done) | (simp [*]; done) | (simp; rw [Bool.eq_iff_iff]; simp; done), by repeat (first | exact Drawn0.refl _ | apply Drawn0.step)⟩

   rw [if_pos c9] at H
   have c9b0 : decide (x7_1 < (l0.length : Int)) = true := decide_eq_true c9
   clear c9
   by_cases c10 : 0 ≤ x7_1
   rotate_left
   ·
    rw [if_neg c10] at H
    exact absurd H (by simp)
   rw [if_pos c10] at H
   have c10b0 : decide (0 ≤ x7_1) = true := decide_eq_true c10
   clear c10
   by_cases c11 : x7_1 < (l0.length : Int)
   rotate_left
   ·
    rw [if_neg c11] at H
    exact absurd H (by simp)
   rw [if_pos c11] at H
   have c11b0 : decide (x7_1 < (l0.length : Int)) = true := decide_eq_true c11
   clear c11
   by_cases c12 : (rdOf ByteArray.empty l0 x7_1).toList = a1.toList
   ·
    rw [if_pos c12] at H
    obtain ⟨c12b0, c12b1⟩ := zT c12
    clear c12
    simp only [Option.some.injEq, Prod.mk.injEq] at H
    obtain ⟨rfl, rfl⟩ := H
    have p435 : 0 ≤ (x7_1 : Int) := of_decide_eq_true (by first | (with_reducible assumption) | assumption)
    have q435 : x7_1 < (l0.length : Int) := of_decide_eq_true (by first | (with_reducible assumption) | assumption)
    obtain ⟨ad435, e435, hx435_0⟩ := Kd.at_string HR0.out x7_1 p435 q435
    cases e435
    replace p435 := eq_true p435
    replace q435 := eq_true q435
    go_wp2
    go_ret2
    exact ⟨by first | rfl | (simp; done) | (simp [*]; done) | (simp; rw [Bool.eq_iff_iff]; simp; done), by repeat (first | exact Drawn0.refl _ | apply Drawn0.step)⟩
   rw [if_neg c12] at H
   obtain ⟨c12b0, c12b1⟩ := zF c12
   replace H := qN H
   obtain ⟨t437, A13, H⟩ := H
   try dsimp only at H
   by_cases c14 : t437 = true
   rotate_left
   ·
    replace c14 := Bool.eq_false_iff.mpr c14
    subst c14
    rw [if_neg (show ¬ (false = true) by decide)] at H
    simp only [Option.some.injEq, Prod.mk.injEq] at H
    obtain ⟨rfl, rfl⟩ := H
    have p435 : 0 ≤ (x7_1 : Int) := of_decide_eq_true (by first | (with_reducible assumption) | assumption)
    have q435 : x7_1 < (l0.length : Int) := of_decide_eq_true (by first | (with_reducible assumption) | assumption)
    obtain ⟨ad435, e435, hx435_0⟩ := Kd.at_string HR0.out x7_1 p435 q435
    cases e435
    replace p435 := eq_true p435
    replace q435 := eq_true q435
    have p436 : 0 ≤ (x7_1 : Int) := of_decide_eq_true (by first | (with_reducible assumption) | assumption)
    have q436 : x7_1 < (l0.length : Int) := of_decide_eq_true (by first | (with_reducible assumption) | assumption)
    obtain ⟨ad436, e436, hx436_0⟩ := Kd.at_string HR0.out x7_1 p436 q436
    obtain rfl : ad435 = ad436 := (by injection e436)
    replace p436 := eq_true p436
    replace q436 := eq_true q436
    go_wp2_with (first | (go_at_call 76; (with_reducible refine (slices_isNaN_string.calls (rdOf ByteArray.empty l0 x7_1) false _ A13.out).mono ?_); rintro e w' ⟨rfl, ⟨nd, rfl⟩⟩))
    go_ret2
    exact ⟨by first | rfl | (simp; done) | (simp [*]; done) | (simp; rw [Bool.eq_iff_iff]; simp; done), by repeat (first | exact Drawn0.refl _ | apply Drawn0.step)⟩
   subst c14
   rw [if_pos rfl] at H
   replace H := qN H
   obtain ⟨t438, A15, H⟩ := H
   try dsimp only at H
   simp only [Option.some.injEq, Prod.mk.injEq] at H
   obtain ⟨rfl, rfl⟩ := H
   have p435 : 0 ≤ (x7_1 : Int) := of_decide_eq_true (by first | (with_reducible assumption) | assumption)
   have q435 : x7_1 < (l0.length : Int) := of_decide_eq_true (by first | (with_reducible assumption) | assumption)
   obtain ⟨ad435, e435, hx435_0⟩ := Kd.at_string HR0.out x7_1 p435 q435
   cases e435
   replace p435 := eq_true p435
   replace q435 := eq_true q435
   have p436 : 0 ≤ (x7_1 : Int) := of_decide_eq_true (by first | (with_reducible assumption) | assumption)
   have q436 : x7_1 < (l0.length : Int) := of_decide_eq_true (by first | (with_reducible assumption) | assumption)
   obtain ⟨ad436, e436, hx436_0⟩ := Kd.at_string HR0.out x7_1 p436 q436
   obtain rfl : ad435 = ad436 := (by injection e436)
   replace p436 := eq_true p436
   replace q436 := eq_true q436
   go_wp2_with (first | (go_at_call 76; (with_reducible refine (slices_isNaN_string.calls (rdOf ByteArray.empty l0 x7_1) true _ A13.out).mono ?_); rintro e w' ⟨rfl, ⟨nd, rfl⟩⟩) | (go_at_call 76; (with_reducible refine (slices_isNaN_string.calls a1 t438 _ A15.out).mono ?_); rintro e w' ⟨rfl, ⟨nd, rfl⟩⟩))
   go_ret2
   exact ⟨by first | rfl | (simp; done) | (simp [*]; done) | (simp; rw [Bool.eq_iff_iff]; simp; done), by repeat (first | exact Drawn0.refl _ | apply Drawn0.step)⟩
end Go.Proofs.YtgfnkdoennbipaaGreat.PF

namespace Go.Proofs.YtgfnkdoennbipaaGreat.PF
open Go.RowKit Go.Proofs.YtgfnkdoennbipaaGreatW.PrintWords Go.Proofs.YtgfnkdoennbipaaGreatW.PrintLast Go.Proofs.YtgfnkdoennbipaaGreatW.PrintMore
attribute [local go_sem] max2_int min2_int max_two min_two max_three min_three max_four min_four   -- for this text's walks alone
set_option linter.unusedVariables false
set_option linter.unusedSimpArgs false

/-! ### spec_l05Number: function 46 -/
def spec_l05Number.l0 : Nat → List ByteArray → ByteArray → Int → Option (Int)
 | 0, _, _, _ => none
 | k + 1, x0, x1, x5 => if x5 < (x0.length : Int) then (if 0 ≤ x5 then (if (rdOf ByteArray.empty x0 x5).toList = x1.toList then (some x5) else (spec_l05Number.l0 k x0 x1 (wrap64 (x5 + 1)))) else (none)) else (some (-1))
def spec_l05Number.f (k : Nat) (l0 : List ByteArray) (a1 : ByteArray) : Option (Int) := spec_l05Number.l0 k l0 a1 0
theorem spec_l05Number.mono_l : ∀ k, (∀ y0 y1 y2, LeO (spec_l05Number.l0 k y0 y1 y2) (spec_l05Number.l0 (k + 1) y0 y1 y2))
 | 0 => fun _ _ _ r h => by simp [spec_l05Number.l0] at h
 | k + 1 => by
  have ih0 := spec_l05Number.mono_l k
  ·
   intro y0 y1 y2
   unfold spec_l05Number.l0
   with_reducible repeat' first
   | exact ih0 _ _ _
   | exact LeO.refl _
   | exact LeO.none _
   | refine LeO.ite ?_ ?_
   | refine LeO.bind ?_ (fun _ => ?_)
theorem spec_l05Number.mono : ∀ a0 a1 k, LeO (spec_l05Number.f k a0 a1) (spec_l05Number.f (k + 1) a0 a1) := by
 intro a0 a1 k
 have ih0 := spec_l05Number.mono_l k
 unfold spec_l05Number.f
 with_reducible repeat' first
   | exact ih0 _ _ _
   | exact LeO.refl _
   | exact LeO.none _
   | refine LeO.ite ?_ ?_
   | refine LeO.bind ?_ (fun _ => ?_)
set_option maxHeartbeats 8000000 in
set_option maxRecDepth 100000 in
theorem spec_l05Number.calls (k : Nat) (A0 : Option Addr) (c0 : Nat) (l0 : List ByteArray) (a1 : ByteArray) (r : Int) (w : World) (hr0 : Kd.C Kd.string w A0 l0.length l0) (hc0 : l0.length ≤ c0) (h : spec_l05Number.f k l0 a1 = some r) :
  Calls Tryz.prog 46 #[.slice A0 l0.length c0, .string a1] w fun e w' => e = .returned (.int .i64 r) ∧ Drawn0 w w' := by
 have HR0 := Aside0.mk hr0
 have HC0 := Aside0.mk hc0
 clear hr0 hc0
 have H : (spec_l05Number.l0 k l0 a1 0) = some r := h
 clear h
 have H' := Aside0.mk H
 clear H
 go_enter Tryz.func46, Tryz.ntmps46
 go_wp2
 go_loopg [5] k (fun kq v5 w' => ∃ (x5_1 : Int), v5 = .int .i64 x5_1 ∧ Aside0 (spec_l05Number.l0 kq l0 a1 x5_1 = some r) ∧ Aside0 (kq ≤ k) ∧ Drawn0 w w')
 case atStart => exact ⟨(0), qF, H', ⟨Nat.le_refl _⟩, by repeat (first | exact Drawn0.refl _ | apply Drawn0.step)⟩
 case round =>
  clear H'
  obtain ⟨x5_1, rfl, HA, HK1, ⟨m1, rfl⟩⟩ := hrel
  cases gk with
  | zero => exact absurd HA.out (by simp [spec_l05Number.l0])
  | succ k1 =>
   have H := HA.out
   clear HA
   simp only [spec_l05Number.l0] at H
   by_cases c3 : x5_1 < (l0.length : Int)
   rotate_left
   ·
    rw [if_neg c3] at H
    have c3b0 : decide (x5_1 < (l0.length : Int)) = false := decide_eq_false c3
    clear c3
    obtain rfl := Option.some.inj H
    go_wp2
    go_ret
    exact ⟨by first | rfl | (simp; done) | (simp [*]; done) | (simp; rw [Bool.eq_iff_iff]; simp; done), by repeat (first | exact Drawn0.refl _ | apply Drawn0.step)⟩

   rw [if_pos c3] at H
   have c3b0 : decide (x5_1 < (l0.length : Int)) = true := decide_eq_true c3
   clear c3
   by_cases c4 : 0 ≤ x5_1
   rotate_left
   ·
    rw [if_neg c4] at H
    exact absurd H (by simp)
   rw [if_pos c4] at H
   have c4b0 : decide (0 ≤ x5_1) = true := decide_eq_true c4
   clear c4
   by_cases c5 : (rdOf ByteArray.empty l0 x5_1).toList = a1.toList
   ·
    rw [if_pos c5] at H
    obtain ⟨c5b0, c5b1⟩ := zT c5
    clear c5
    obtain rfl := Option.some.inj H
    have p461 : 0 ≤ (x5_1 : Int) := of_decide_eq_true (by first | (with_reducible assumption) | assumption)
    have q461 : x5_1 < (l0.length : Int) := of_decide_eq_true (by first | (with_reducible assumption) | assumption)
    obtain ⟨ad461, e461, hx461_0⟩ := Kd.at_string HR0.out x5_1 p461 q461
    cases e461
    replace p461 := eq_true p461
    replace q461 := eq_true q461
    go_wp2
    go_ret
    exact ⟨by first | rfl | (simp; done) | (simp [*]; done) | (simp; rw [Bool.eq_iff_iff]; simp; done), by repeat (first | exact Drawn0.refl _ | apply Drawn0.step)⟩
   rw [if_neg c5] at H
   obtain ⟨c5b0, c5b1⟩ := zF c5
   have H' := Aside0.mk H
   clear H
   have p461 : 0 ≤ (x5_1 : Int) := of_decide_eq_true (by first | (with_reducible assumption) | assumption)
   have q461 : x5_1 < (l0.length : Int) := of_decide_eq_true (by first | (with_reducible assumption) | assumption)
   obtain ⟨ad461, e461, hx461_0⟩ := Kd.at_string HR0.out x5_1 p461 q461
   cases e461
   replace p461 := eq_true p461
   replace q461 := eq_true q461
   go_wp2
   go_roundg k1
   case measure => have := HK1.out; omega
   case rel => exact ⟨(wrap64 (x5_1 + 1)), qF, H', ⟨by have := HK1.out; omega⟩, by repeat (first | exact Drawn0.refl _ | apply Drawn0.step)⟩
end Go.Proofs.YtgfnkdoennbipaaGreat.PF

namespace Go.Proofs.YtgfnkdoennbipaaGreat.PF
open Go.RowKit Go.Proofs.YtgfnkdoennbipaaGreatW.PrintWords Go.Proofs.YtgfnkdoennbipaaGreatW.PrintLast Go.Proofs.YtgfnkdoennbipaaGreatW.PrintMore
attribute [local go_sem] max2_int min2_int max_two min_two max_three min_three max_four min_four   -- for this text's walks alone
set_option linter.unusedVariables false
set_option linter.unusedSimpArgs false

/-! ### spec_FactorEdges: function 13 -/
def spec_FactorEdges.l0 : Nat → Int → List ByteArray → List ByteArray → List (List Int) → Int → Option ((List (List Int)) × Int)
 | 0, _, _, _, _, _ => none
 | k + 1, x1, x7, x8, x9, x10 => if x10 < (x8.length : Int) then (if 0 ≤ x10 then (if 0 ≤ x1 then (if x1 ≤ ((rdOf ByteArray.empty x8 x10).size : Int) then ((spec_l05Number.f k x7 ((rdOf ByteArray.empty x8 x10).extract 0 (x1 : Int).toNat)).bind fun t473 => (if 1 ≤ ((rdOf ByteArray.empty x8 x10).size : Int) then ((spec_l05Number.f k x7 ((rdOf ByteArray.empty x8 x10).extract 1 (rdOf ByteArray.empty x8 x10).size)).bind fun t475 => (if x9.length < 5864062014805 then (spec_FactorEdges.l0 k x1 x7 x8 (x9 ++ [(([t473, t475] : List Int))]) (wrap64 (x10 + 1))) else (none))) else (none))) else (none)) else (none)) else (none)) else (some (x9, 0))
def spec_FactorEdges.f (k : Nat) (a0 : ByteArray) (a1 : Int) : Option ((List (List Int)) × Int) := (spec_l05Code.f k a0 a1).bind fun t462 => (if t462 = 0 then ((spec_l01Factors.f k a0 a1).bind fun t463 => ((spec_l01Factors.f k a0 (wrap64 (a1 + 1))).bind fun t466 => (spec_FactorEdges.l0 k a1 t463 t466 (([] : List (List Int))) 0))) else (some (([] : List (List Int)), t462)))
theorem spec_FactorEdges.mono_l : ∀ k, (∀ y0 y1 y2 y3 y4, LeO (spec_FactorEdges.l0 k y0 y1 y2 y3 y4) (spec_FactorEdges.l0 (k + 1) y0 y1 y2 y3 y4))
 | 0 => fun _ _ _ _ _ r h => by simp [spec_FactorEdges.l0] at h
 | k + 1 => by
  have ih0 := spec_FactorEdges.mono_l k
  ·
   intro y0 y1 y2 y3 y4
   unfold spec_FactorEdges.l0
   with_reducible repeat' first
   | exact ih0 _ _ _ _ _
   | exact spec_l01Factors.mono _ _ _
   | exact spec_l05Code.mono _ _ _
   | exact spec_l05Number.mono _ _ _
   | exact LeO.refl _
   | exact LeO.none _
   | refine LeO.ite ?_ ?_
   | refine LeO.bind ?_ (fun _ => ?_)
theorem spec_FactorEdges.mono : ∀ a0 a1 k, LeO (spec_FactorEdges.f k a0 a1) (spec_FactorEdges.f (k + 1) a0 a1) := by
 intro a0 a1 k
 have ih0 := spec_FactorEdges.mono_l k
 unfold spec_FactorEdges.f
 with_reducible repeat' first
   | exact ih0 _ _ _ _ _
   | exact spec_l01Factors.mono _ _ _
   | exact spec_l05Code.mono _ _ _
   | exact spec_l05Number.mono _ _ _
   | exact LeO.refl _
   | exact LeO.none _
   | refine LeO.ite ?_ ?_
   | refine LeO.bind ?_ (fun _ => ?_)
def spec_FactorEdges.T8 : Bool × List (List Nat × List Nat) := (true, [([], []), ([], []), ([], []), ([], []), ([2, 3], [2, 3]), ([4], [4]), ([], []), ([5, 6], [5, 6]), ([1, 7], [1, 7]), ([], []), ([], []), ([], []), ([10, 11], [10, 11]), ([12], [12]), ([13], [13]), ([9, 14, 8], [9, 14]), ([8, 15], [8, 15]), ([16], [16]), ([0, 17, 15], [0, 17]), ([18, 18, 0, 1, 2, 3, 4, 5, 6, 7, 8, 9, 10, 11, 12, 13, 14, 15, 16, 17, 18], [0, 18])])
def spec_FactorEdges.B8 : List Nat := [0, 0, 0, 0, 12, 28, 0, 124, 254, 0, 0, 0, 3072, 7168, 15360, 32766, 65534, 131070, 262143, 524287]
theorem spec_FactorEdges.tab8 : rtab .any (opsOf Tryz.f13 8) = spec_FactorEdges.T8 := by kernel_rfl
theorem spec_FactorEdges.bits8 : waitsOk spec_FactorEdges.T8.2 spec_FactorEdges.B8 = true := by kernel_rfl
set_option maxHeartbeats 8000000 in
set_option maxRecDepth 100000 in
theorem spec_FactorEdges.calls (k : Nat) (a0 : ByteArray) (a1 : Int) (r1 : List (List Int)) (r2 : Int) (w : World) (h : spec_FactorEdges.f k a0 a1 = some (r1, r2)) :
  Calls Tryz.prog 13 #[.string a0, .int .i64 a1] w fun e w' => ∃ v0_ : Value, e = .returned (.tuple #[v0_, .int .i64 r2]) ∧ Kd.S (Kd.slice 2 (Kd.int .i64)) 36 w' w.heap.size (fun _ => True) v0_ r1 ∧ Below w.heap.size w w' := by
 have HB := Aside0.mk (Below.refl w.heap.size w)
 have H : ((spec_l05Code.f k a0 a1).bind fun t462 => (if t462 = 0 then ((spec_l01Factors.f k a0 a1).bind fun t463 => ((spec_l01Factors.f k a0 (wrap64 (a1 + 1))).bind fun t466 => (spec_FactorEdges.l0 k a1 t463 t466 (([] : List (List Int))) 0))) else (some (([] : List (List Int)), t462)))) = some (r1, r2) := h
 clear h
 replace H := qN H
 obtain ⟨t462, A3, H⟩ := H
 try dsimp only at H
 by_cases c4 : t462 = 0
 rotate_left
 ·
  rw [if_neg c4] at H
  obtain ⟨c4b0, c4b1⟩ := zF c4
  simp only [Option.some.injEq, Prod.mk.injEq] at H
  obtain ⟨rfl, rfl⟩ := H
  go_enter Tryz.func13, Tryz.ntmps13
  go_wp2_with (first | ((with_reducible refine gate_callee (f := 33) rfl ?_); refine goesL_ (some 13) rfl rfl Tryz.func33 (by kernel_rfl) rfl #[.string a0, .int .i64 a1] rfl qV ?_; (with_reducible refine (spec_l05Code.calls k a0 a1 t462 _ A3.out).mono ?_); rintro e w' ⟨rfl, ⟨nd, rfl⟩⟩; refine ⟨_, rfl, ?_⟩))
  go_ret2
  exact ⟨_, qE, by first | exact Kd.S_nil _ _ _ _ _ | exact Kd.N_nil _ _ _ _ _ | exact Kd.V_nil _ _ _ _ _ | exact Kd.Q_nil _ _ _ _ _ | exact Kd.R_nil _ _ _ _ _, qB HB.out⟩

 rw [if_pos c4] at H
 obtain ⟨c4b0, c4b1⟩ := zT c4
 clear c4
 replace H := qN H
 obtain ⟨t463, A5, H⟩ := H
 try dsimp only at H
 replace H := qN H
 obtain ⟨t466, A6, H⟩ := H
 try dsimp only at H
 obtain ⟨y469, hy469⟩ : ∃ y_ : List (List Int), y_ = (([] : List (List Int))) := ⟨_, rfl⟩
 replace H : (spec_FactorEdges.l0 k a1 t463 t466 y469 0) = some (r1, r2) := by first | (rw [hy469]; with_reducible exact H) | (have H2_ := (Option.bind_some _ _).symm.trans H; rw [hy469]; with_reducible exact H2_) | (have H2_ := (Option.bind_some _ _).symm.trans H; with_reducible exact H2_) | with_reducible exact H | (rw [hy469]; exact H) | exact H
 have Ny469 := Aside0.mk hy469
 clear hy469
 have H' := Aside0.mk H
 clear H
 go_enter Tryz.func13, Tryz.ntmps13
 go_wp2_with (first | ((with_reducible refine gate_callee (f := 33) rfl ?_); refine goesL_ (some 13) rfl rfl Tryz.func33 (by kernel_rfl) rfl #[.string a0, .int .i64 a1] rfl qV ?_; (with_reducible refine (spec_l05Code.calls k a0 a1 t462 _ A3.out).mono ?_); rintro e w' ⟨rfl, ⟨nd, rfl⟩⟩; refine ⟨_, rfl, ?_⟩) | ((with_reducible refine gate_callee (f := 45) rfl ?_); refine goesL_ (some 19) rfl rfl Tryz.func45 (by kernel_rfl) rfl #[.string a0, .int .i64 a1] rfl qV ?_; (with_reducible refine (spec_l01Factors.calls k a0 a1 t463 _ A5.out).mono ?_); rintro e w7 ⟨v464, rfl, ho0, hb⟩; refine ⟨_, rfl, ?_⟩; have HO465 := Aside0.mk (Kd.R_lower ho0 (below_size (qB HB.out))); replace HB := Aside0.mk (below_step (qB HB.out) hb)) | ((with_reducible refine gate_callee (f := 45) rfl ?_); refine goesL_ (some 23) rfl rfl Tryz.func45 (by kernel_rfl) rfl #[.string a0, .int .i64 (wrap64 (a1 + 1))] rfl qV ?_; (with_reducible refine (spec_l01Factors.calls k a0 (wrap64 (a1 + 1)) t466 _ A6.out).mono ?_); rintro e w8 ⟨v467, rfl, ho0, hb⟩; refine ⟨_, rfl, ?_⟩; have HO468 := Aside0.mk (Kd.R_lower (Kd.R_new' ho0 (Kd.R_lt (qR HO465.out))) (below_size (qB HB.out))); replace HO465 := Aside0.mk (Kd.R_elder' (qR HO465.out) (Kd.R_base ho0) hb); replace HB := Aside0.mk (below_step (qB HB.out) hb)) | ((with_reducible refine gate_dst (N := 24) rfl ?_); refine Kd.S_lit (Kd.slice 2 (Kd.int .i64)) _ 36 ?hg (N := 24) ?hd (xs := ([] : List (List Int))) (inner := []) (ok := fun _ => True) (okp := fun _ => True) ?hr ?hp (fun _ hk => hk) trivial (Below.refl _ _) (Nat.le_refl _) (by simp) ?_; (case hd => rfl); (case hg => rfl); (case hr => first | (go_simp; done) | (go_simp; rfl)); (case hp => exact (Reps.none _ _)); intro v470 w9 ho10 hb hg_ hnew_; clear hg_ hnew_; (first | rw [← Ny469.out] at ho10 | (simp only [Int.reduceToNat] at ho10; rw [← Ny469.out] at ho10)); replace HO465 := Aside0.mk (Kd.R_below (qR HO465.out) hb); replace HO468 := Aside0.mk (Kd.R_below (qR HO468.out) hb); have HO471 := Aside0.mk (Kd.S_lower ho10 (below_size (qB HB.out))); replace HB := Aside0.mk (below_step (qB HB.out) hb); clear hb ho10))
 go_loopg [9, 10] k (fun kq v9 v10 w' => ∃ (x9_1 : List (List Int)) (x10_1 : Int), v10 = .int .i64 x10_1 ∧ Aside0 (spec_FactorEdges.l0 kq a1 t463 t466 x9_1 x10_1 = some (r1, r2)) ∧ Aside0 (kq ≤ k) ∧ Aside0 (Kd.R Kd.string 9 w' w.heap.size (fun k_ => some k_ ≠ (v467 : Value).ownBlock) v464 t463) ∧ Aside0 (Kd.R Kd.string 9 w' w.heap.size (fun k_ => some k_ ≠ (v464 : Value).ownBlock) v467 t466) ∧ Aside0 (Kd.S (Kd.slice 2 (Kd.int .i64)) 36 w' w.heap.size (fun _ => True) v9 x9_1) ∧ Aside0 (Below w.heap.size w w'))
 case atStart => exact ⟨(y469), (0), qF, H', ⟨Nat.le_refl _⟩, ⟨by (with_reducible repeat (first | apply Kd.R_alloc | apply Kd.R_drewN | apply Kd.R_drew)); exact Kd.R_mono HO465.out (fun _ hk => hk.2)⟩, ⟨by (with_reducible repeat (first | apply Kd.R_alloc | apply Kd.R_drewN | apply Kd.R_drew)); exact Kd.R_mono HO468.out (fun _ hk => hk.2)⟩, ⟨by (with_reducible repeat (first | apply Kd.S_alloc | apply Kd.S_drewN | apply Kd.S_drew)); exact HO471.out⟩, ⟨qB HB.out⟩⟩
 case round =>
  clear H'
  obtain ⟨x9_1, x10_1, rfl, HA, HK1, HO_7, HO_8, HO_9, HB⟩ := hrel
  cases gk with
  | zero => exact absurd HA.out (by simp [spec_FactorEdges.l0])
  | succ k1 =>
   have H := HA.out
   clear HA
   simp only [spec_FactorEdges.l0] at H
   by_cases c11 : x10_1 < (t466.length : Int)
   rotate_left
   ·
    rw [if_neg c11] at H
    have c11b0 : decide (x10_1 < (t466.length : Int)) = false := decide_eq_false c11
    clear c11
    simp only [Option.some.injEq, Prod.mk.injEq] at H
    obtain ⟨rfl, rfl⟩ := H
    obtain ⟨Ao26, co26, eo26⟩ := Kd.R_slice HO_8.out
    subst eo26
    go_wp2
    go_ret2
    exact ⟨_, qE, by (with_reducible repeat (first | apply Kd.S_alloc | apply Kd.S_drewN | apply Kd.S_drew)); exact HO_9.out, qB HB.out⟩
   rw [if_pos c11] at H
   have c11b0 : decide (x10_1 < (t466.length : Int)) = true := decide_eq_true c11
   clear c11
   by_cases c12 : 0 ≤ x10_1
   rotate_left
   ·
    rw [if_neg c12] at H
    exact absurd H (by simp)
   rw [if_pos c12] at H
   have c12b0 : decide (0 ≤ x10_1) = true := decide_eq_true c12
   clear c12
   by_cases c13 : 0 ≤ a1
   rotate_left
   ·
    rw [if_neg c13] at H
    exact absurd H (by simp)
   rw [if_pos c13] at H
   have c13b0 := eq_true c13
   have c13b1 : decide (0 ≤ a1) = true := decide_eq_true c13
   clear c13
   by_cases c14 : a1 ≤ ((rdOf ByteArray.empty t466 x10_1).size : Int)
   rotate_left
   ·
    rw [if_neg c14] at H
    exact absurd H (by simp)
   rw [if_pos c14] at H
   have c14b0 := eq_true c14
   have c14b1 : decide (a1 ≤ ((rdOf ByteArray.empty t466 x10_1).size : Int)) = true := decide_eq_true c14
   clear c14
   replace H := qN H
   obtain ⟨t473, A15, H⟩ := H
   try dsimp only at H
   by_cases c16 : 1 ≤ ((rdOf ByteArray.empty t466 x10_1).size : Int)
   rotate_left
   ·
    rw [if_neg c16] at H
    exact absurd H (by simp)
   rw [if_pos c16] at H
   have c16b0 := eq_true c16
   have c16b1 : decide (1 ≤ ((rdOf ByteArray.empty t466 x10_1).size : Int)) = true := decide_eq_true c16
   clear c16
   replace H := qN H
   obtain ⟨t475, A17, H⟩ := H
   try dsimp only at H
   obtain ⟨y476, hy476⟩ : ∃ y_ : List Int, y_ = (([t473, t475] : List Int)) := ⟨_, rfl⟩
   replace H : (if x9_1.length < 5864062014805 then (spec_FactorEdges.l0 k1 a1 t463 t466 (x9_1 ++ [y476]) (wrap64 (x10_1 + 1))) else (none)) = some (r1, r2) := by first | (rw [hy476]; with_reducible exact H) | (have H2_ := (Option.bind_some _ _).symm.trans H; rw [hy476]; with_reducible exact H2_) | (have H2_ := (Option.bind_some _ _).symm.trans H; with_reducible exact H2_) | with_reducible exact H | (rw [hy476]; exact H) | exact H
   have Ny476 := Aside0.mk hy476
   clear hy476
   by_cases c18 : x9_1.length < 5864062014805
   rotate_left
   ·
    rw [if_neg c18] at H
    exact absurd H (by simp)
   rw [if_pos c18] at H
   have LMc18 := Aside0.mk c18
   clear c18
   obtain ⟨y479, hy479⟩ : ∃ y_ : List (List Int), y_ = (x9_1 ++ [y476]) := ⟨_, rfl⟩
   replace H : (spec_FactorEdges.l0 k1 a1 t463 t466 y479 (wrap64 (x10_1 + 1))) = some (r1, r2) := by first | (rw [hy479]; with_reducible exact H) | (have H2_ := (Option.bind_some _ _).symm.trans H; rw [hy479]; with_reducible exact H2_) | (have H2_ := (Option.bind_some _ _).symm.trans H; with_reducible exact H2_) | with_reducible exact H | (rw [hy479]; exact H) | exact H
   have Ny479 := Aside0.mk hy479
   clear hy479
   have H' := Aside0.mk H
   clear H
   obtain ⟨Ao19, co19, eo19⟩ := Kd.R_slice HO_8.out
   subst eo19
   try go_wp2
   have n0_ := Aside0.mk (Kd.R_drew HO_7.out)
   have n1_ := Aside0.mk (Kd.R_drew HO_8.out)
   have n2_ := Aside0.mk (Kd.S_drew HO_9.out)
   have n3_ := Aside0.mk (below_drew1 HB.out)
   clear HO_7
   clear HO_8
   clear HO_9
   clear HB
   have HO_7 := n0_
   have HO_8 := n1_
   have HO_9 := n2_
   have HB := n3_
   clear n0_ n1_ n2_ n3_
   have p472 : 0 ≤ (x10_1 : Int) := of_decide_eq_true (by first | (with_reducible assumption) | assumption)
   have q472 : x10_1 < (t466.length : Int) := of_decide_eq_true (by first | (with_reducible assumption) | assumption)
   obtain ⟨ad472, e472, hx472_0⟩ := Kd.at_string (Kd.R_reads' HO_8.out).2.2 x10_1 p472 q472
   cases e472
   replace p472 := eq_true p472
   replace q472 := eq_true q472
   have p474 : 0 ≤ (x10_1 : Int) := of_decide_eq_true (by first | (with_reducible assumption) | assumption)
   have q474 : x10_1 < (t466.length : Int) := of_decide_eq_true (by first | (with_reducible assumption) | assumption)
   obtain ⟨ad474, e474, hx474_0⟩ := Kd.at_string (Kd.R_reads' HO_8.out).2.2 x10_1 p474 q474
   obtain rfl : ad472 = ad474 := (by injection e474)
   replace p474 := eq_true p474
   replace q474 := eq_true q474
   obtain ⟨Ao21, co21, eo21⟩ := Kd.R_slice HO_7.out
   (first | subst eo21 | (injection eo21 with f1_ f2_ f3_; have f4_ := f1_.symm; have f5_ := f3_.symm; clear f1_ f2_ f3_; subst f4_; subst f5_))
   refine start_ (n := 20) (S := fun w' => w'.cell? (ad472.add (x10_1).toNat) = some (.string (rdOf ByteArray.empty t466 x10_1)) ∧ w'.cell? (ad472.add (x10_1).toNat) = some (.string (rdOf ByteArray.empty t466 x10_1))) (ds := [17, 18]) #[false, false, false, false, false, false, false, false, false, false, false, false, false, false, false, false, false, false, false, false] (by kernel_rfl) rfl rfl ⟨hx472_0, hx474_0⟩ (fun hHeld => ?_); refine with_tabW spec_FactorEdges.tab8 spec_FactorEdges.bits8 (fun HT_ HW_ => ?_)
   generalize wr.drew = w20 at HO_7 HO_8 HO_9 HB hx472_0 hx474_0 hHeld ⊢
   refine pure_ (i := 0) (N := some 31) (v := ?_) (a' := ?_) #[true, false, false, false, false, false, false, false, false, false, false, false, false, false, false, false, false, false, false, false] rfl rfl (any_of HT_.out (by kernel_rfl)) (fun _ _ _ h => h) (Or.inl ⟨by rfl, ?_⟩) ?_ ?_
   rotate_left
   ·
    intro w'
    go_simp
    with_reducible rfl
   rotate_left
   ·
    simp only [Act.put, List.setIfInBounds_toArray, List.set_cons_zero, List.set_cons_succ, i64_w, i32_w]
    rfl
   refine pure_ (i := 1) (N := some 32) (v := ?_) (a' := ?_) #[true, true, false, false, false, false, false, false, false, false, false, false, false, false, false, false, false, false, false, false] rfl rfl (any_of HT_.out (by kernel_rfl)) (fun _ _ _ h => h) (Or.inl ⟨by rfl, ?_⟩) ?_ ?_
   rotate_left
   ·
    intro w'
    go_simp
    with_reducible rfl
   rotate_left
   ·
    simp only [Act.put, List.setIfInBounds_toArray, List.set_cons_zero, List.set_cons_succ, i64_w, i32_w]
    rfl
   refine pure_ (i := 2) (N := some 33) (v := ?_) (a' := ?_) #[true, true, true, false, false, false, false, false, false, false, false, false, false, false, false, false, false, false, false, false] rfl rfl (any_of HT_.out (by kernel_rfl)) (fun _ _ _ h => h) (Or.inl ⟨by rfl, ?_⟩) ?_ ?_
   rotate_left
   ·
    intro w'
    go_simp
    with_reducible rfl
   rotate_left
   ·
    simp only [Act.put, List.setIfInBounds_toArray, List.set_cons_zero, List.set_cons_succ, i64_w, i32_w]
    rfl
   refine pure_ (i := 3) (N := some 34) (v := ?_) (a' := ?_) #[true, true, true, true, false, false, false, false, false, false, false, false, false, false, false, false, false, false, false, false] rfl rfl (any_of HT_.out (by kernel_rfl)) (fun _ _ _ h => h) (Or.inl ⟨by rfl, ?_⟩) ?_ ?_
   rotate_left
   ·
    intro w'
    go_simp
    with_reducible rfl
   rotate_left
   ·
    simp only [Act.put, List.setIfInBounds_toArray, List.set_cons_zero, List.set_cons_succ, i64_w, i32_w]
    rfl
   refine pure_ (i := 4) (N := some 35) (v := ?_) (a' := ?_) #[true, true, true, true, true, false, false, false, false, false, false, false, false, false, false, false, false, false, false, false] rfl rfl (any_of HT_.out (by kernel_rfl)) (fun _ _ _ h => h) (Or.inl ⟨by rfl, ?_⟩) ?_ ?_
   rotate_left
   ·
    intro w'
    go_simp
    with_reducible rfl
   rotate_left
   ·
    simp only [Act.put, List.setIfInBounds_toArray, List.set_cons_zero, List.set_cons_succ, i64_w, i32_w]
    rfl
   refine pure_ (i := 6) (N := some 37) (v := ?_) (a' := ?_) #[true, true, true, true, true, false, true, false, false, false, false, false, false, false, false, false, false, false, false, false] rfl rfl (any_of HT_.out (by kernel_rfl)) (fun _ _ _ h => h) (Or.inl ⟨by rfl, ?_⟩) ?_ ?_
   rotate_left
   ·
    intro w'
    go_simp
    with_reducible rfl
   rotate_left
   ·
    simp only [Act.put, List.setIfInBounds_toArray, List.set_cons_zero, List.set_cons_succ, i64_w, i32_w]
    rfl
   refine pure_ (i := 9) (N := some 40) (v := ?_) (a' := ?_) #[true, true, true, true, true, false, true, false, false, true, false, false, false, false, false, false, false, false, false, false] rfl rfl (any_of HT_.out (by kernel_rfl)) (fun _ _ _ h => h) (Or.inl ⟨by rfl, ?_⟩) ?_ ?_
   rotate_left
   ·
    intro w'
    go_simp
    with_reducible rfl
   rotate_left
   ·
    simp only [Act.put, List.setIfInBounds_toArray, List.set_cons_zero, List.set_cons_succ, i64_w, i32_w]
    rfl
   refine pure_ (i := 10) (N := some 41) (v := ?_) (a' := ?_) #[true, true, true, true, true, false, true, false, false, true, true, false, false, false, false, false, false, false, false, false] rfl rfl (any_of HT_.out (by kernel_rfl)) (fun _ _ _ h => h) (Or.inl ⟨by rfl, ?_⟩) ?_ ?_
   rotate_left
   ·
    intro w'
    go_simp
    with_reducible rfl
   rotate_left
   ·
    simp only [Act.put, List.setIfInBounds_toArray, List.set_cons_zero, List.set_cons_succ, i64_w, i32_w]
    rfl
   refine pure_ (i := 11) (N := some 42) (v := ?_) (a' := ?_) #[true, true, true, true, true, false, true, false, false, true, true, true, false, false, false, false, false, false, false, false] rfl rfl (any_of HT_.out (by kernel_rfl)) (fun _ _ _ h => h) (Or.inl ⟨by rfl, ?_⟩) ?_ ?_
   rotate_left
   ·
    intro w'
    go_simp
    with_reducible rfl
   rotate_left
   ·
    simp only [Act.put, List.setIfInBounds_toArray, List.set_cons_zero, List.set_cons_succ, i64_w, i32_w]
    rfl
   refine pure_ (i := 12) (N := some 43) (v := ?_) (a' := ?_) #[true, true, true, true, true, false, true, false, false, true, true, true, true, false, false, false, false, false, false, false] rfl rfl (any_of HT_.out (by kernel_rfl)) (fun _ _ _ h => h) (Or.inl ⟨by rfl, ?_⟩) ?_ ?_
   rotate_left
   ·
    intro w'
    go_simp
    with_reducible rfl
   rotate_left
   ·
    simp only [Act.put, List.setIfInBounds_toArray, List.set_cons_zero, List.set_cons_succ, i64_w, i32_w]
    rfl
   refine take_ (i := 5) (N := some 36) (v := ?_) (a' := ?_) #[true, true, true, true, true, true, true, false, false, true, true, true, true, false, false, false, false, false, false, false] rfl rfl (take_ofW HT_.out HW_.out (by kernel_rfl)) (fun _ _ _ h => h) (Or.inl ⟨by rfl, ?_⟩) hHeld ?_ ?_
   rotate_left
   ·
    rintro w' ⟨s0, s1⟩
    go_simp
    with_reducible rfl
   rotate_left
   ·
    simp only [Act.put, List.setIfInBounds_toArray, List.set_cons_zero, List.set_cons_succ, i64_w, i32_w]
    rfl
   refine pure_ (i := 7) (N := some 38) (v := ?_) (a' := ?_) #[true, true, true, true, true, true, true, true, false, true, true, true, true, false, false, false, false, false, false, false] rfl rfl (any_of HT_.out (by kernel_rfl)) (fun _ _ _ h => h) (Or.inl ⟨by rfl, ?_⟩) ?_ ?_
   rotate_left
   ·
    intro w'
    go_simp
    with_reducible rfl
   rotate_left
   ·
    simp only [Act.put, List.setIfInBounds_toArray, List.set_cons_zero, List.set_cons_succ, i64_w, i32_w]
    rfl
   refine take_ (i := 13) (N := some 44) (v := ?_) (a' := ?_) #[true, true, true, true, true, true, true, true, false, true, true, true, true, true, false, false, false, false, false, false] rfl rfl (take_ofW HT_.out HW_.out (by kernel_rfl)) (fun _ _ _ h => h) (Or.inl ⟨by rfl, ?_⟩) hHeld ?_ ?_
   rotate_left
   ·
    rintro w' ⟨s0, s1⟩
    go_simp
    with_reducible rfl
   rotate_left
   ·
    simp only [Act.put, List.setIfInBounds_toArray, List.set_cons_zero, List.set_cons_succ, i64_w, i32_w]
    rfl
   refine pure_ (i := 14) (N := some 45) (v := ?_) (a' := ?_) #[true, true, true, true, true, true, true, true, false, true, true, true, true, true, true, false, false, false, false, false] rfl rfl (any_of HT_.out (by kernel_rfl)) (fun _ _ _ h => h) (Or.inl ⟨by rfl, ?_⟩) ?_ ?_
   rotate_left
   ·
    intro w'
    go_simp
    with_reducible rfl
   rotate_left
   ·
    simp only [Act.put, List.setIfInBounds_toArray, List.set_cons_zero, List.set_cons_succ, i64_w, i32_w]
    rfl
   refine one_ (i := 8) (N := some 39) #[true, true, true, true, true, true, true, true, true, true, true, true, true, true, true, false, false, false, false, false] rfl rfl (one_of HT_.out (by kernel_rfl)) (by decide) (fun K hK => ?_)
   refine goes_ Tryz.func46 (by kernel_rfl) rfl #[.slice Ao21 t463.length co21, .string ((rdOf ByteArray.empty t466 x10_1).extract 0 (a1 : Int).toNat)] (by rfl) rfl rfl qV ?_
   with_reducible refine (spec_l05Number.calls k1 _ _ t463 ((rdOf ByteArray.empty t466 x10_1).extract 0 (a1 : Int).toNat) t473 _ ?side1 ?side2 A15.out).mono ?_
   (case side1 => exact qC (Kd.R_reads' HO_7.out).2.2)
   (case side2 => exact (Kd.R_reads' HO_7.out).2.1)
   rintro e w' ⟨rfl, ⟨nd, rfl⟩⟩
   refine ⟨_, rfl, ?_⟩
   refine hK.out _ _ ⟨hHeld.1, hHeld.2⟩ (fun hHeld => ?_)
   clear hK K
   refine norm_ (a' := ?_) ?_ ?_
   rotate_left
   ·
    show Act.put _ (some 39) _ = _
    simp only [Act.put, List.setIfInBounds_toArray, List.set_cons_zero, List.set_cons_succ, i64_w, i32_w]
    rfl
   refine one_ (i := 15) (N := some 46) #[true, true, true, true, true, true, true, true, true, true, true, true, true, true, true, true, false, false, false, false] rfl rfl (one_of HT_.out (by kernel_rfl)) (by decide) (fun K hK => ?_)
   refine goes_ Tryz.func46 (by kernel_rfl) rfl #[.slice Ao21 t463.length co21, .string ((rdOf ByteArray.empty t466 x10_1).extract 1 (rdOf ByteArray.empty t466 x10_1).size)] (by rfl) rfl rfl qV ?_
   with_reducible refine (spec_l05Number.calls k1 _ _ t463 ((rdOf ByteArray.empty t466 x10_1).extract 1 (rdOf ByteArray.empty t466 x10_1).size) t475 _ ?side1 ?side2 A17.out).mono ?_
   (case side1 => exact qC (Kd.R_reads' HO_7.out).2.2)
   (case side2 => exact (Kd.R_reads' HO_7.out).2.1)
   rintro e w' ⟨rfl, ⟨nd, rfl⟩⟩
   refine ⟨_, rfl, ?_⟩
   refine hK.out _ _ ⟨hHeld.1, hHeld.2⟩ (fun hHeld => ?_)
   clear hK K
   refine norm_ (a' := ?_) ?_ ?_
   rotate_left
   ·
    show Act.put _ (some 46) _ = _
    simp only [Act.put, List.setIfInBounds_toArray, List.set_cons_zero, List.set_cons_succ, i64_w, i32_w]
    rfl
   refine one_ (i := 16) (N := some 47) #[true, true, true, true, true, true, true, true, true, true, true, true, true, true, true, true, true, false, false, false] rfl rfl (one_of HT_.out (by kernel_rfl)) (by decide) (fun K hK => ?_)
   refine Kd.R_lit_step (Kd.int .i64) _ 2 ?hg (N := 47) ?hd (xs := ([t473, t475] : List Int)) (inner := [.int .i64 t473, .int .i64 t475]) (ok := fun _ => True) (okp := fun _ => True) ?hr ?hp (fun _ hk => hk) trivial (Below.refl _ _) (Nat.le_refl _) (by simp) ?_; (case hd => rfl); (case hg => rfl); (case hr => first | (go_simp; done) | (go_simp; rfl)); (case hp => exact (Reps.one (show Kd.M (Kd.int .i64) _ _ _ t473 [.int .i64 t473] from rfl) (Reps.one (show Kd.M (Kd.int .i64) _ _ _ t475 [.int .i64 t475] from rfl) (Reps.none _ _))))
   intro v477 w22 ho23 hb hg_ hnew_
   have HS0_ := (hb.cell (World.block_lt_of_cell? _ _ (hHeld.1))).trans (hHeld.1)
   have HS1_ := (hb.cell (World.block_lt_of_cell? _ _ (hHeld.2))).trans (hHeld.2)
   clear hg_ hnew_
   (first | rw [← Ny476.out] at ho23 | (simp only [Int.reduceToNat] at ho23; rw [← Ny476.out] at ho23))
   have n0_ := Aside0.mk (Kd.R_below (qR HO_7.out) hb)
   have n1_ := Aside0.mk (Kd.R_below (qR HO_8.out) hb)
   have n2_ := Aside0.mk (Kd.S_elder' (by (with_reducible repeat (first | apply Kd.S_alloc | apply Kd.S_drewN | apply Kd.S_drew)); exact HO_9.out) (Kd.R_base ho23) hb)
   have n3_ := Aside0.mk (Kd.R_lower ho23 (below_size (qB HB.out)))
   have n4_ := Aside0.mk (below_step (qB HB.out) hb)
   clear HO_7
   clear HO_8
   clear HO_9
   clear HB
   have HO_7 := n0_
   have HO_8 := n1_
   have HO_9 := n2_
   have HO478 := n3_
   have HB := n4_
   clear n0_ n1_ n2_ n3_ n4_
   clear hb ho23
   obtain ⟨Ao25, co25, eo25⟩ := Kd.R_slice HO478.out
   (first | subst eo25 | (injection eo25 with f1_ f2_ f3_; have f4_ := f1_.symm; have f5_ := f3_.symm; clear f1_ f2_ f3_; subst f4_; subst f5_))
   refine hK.out _ _ ⟨HS0_, HS1_⟩ (fun hHeld => ?_)
   clear hK K
   refine norm_ (a' := ?_) ?_ ?_
   rotate_left
   ·
    show Act.put _ (some 47) _ = _
    simp only [Act.put, List.setIfInBounds_toArray, List.set_cons_zero, List.set_cons_succ, i64_w, i32_w]
    rfl
   refine last_ (i := 17) (N := some 48) #[true, true, true, true, true, true, true, true, true, true, true, true, true, true, true, true, true, true, false, false] rfl rfl (one_of HT_.out (by kernel_rfl)) (by decide) (fun K hK => ?_)
   refine value_ (w1 := ?_) (v := ?_) (by rfl) rfl ?_ ?_
   rotate_left 2
   ·
    go_simp
    constructor
    ·
     rfl
    ·
     rfl
   refine hK.out _ _ ?_
   clear hK K
   refine norm_ (a' := ?_) ?_ ?_
   rotate_left
   ·
    show Act.put _ (some 48) _ = _
    simp only [Act.put, List.setIfInBounds_toArray, List.set_cons_zero, List.set_cons_succ, i64_w, i32_w]
    rfl
   refine last_ (i := 18) (N := some 49) #[true, true, true, true, true, true, true, true, true, true, true, true, true, true, true, true, true, true, true, false] rfl rfl (one_of HT_.out (by kernel_rfl)) (by decide) (fun K hK => ?_)
   refine Kd.S_append_step (Kd.slice 2 (Kd.int .i64)) (w0 := w) w.heap.size (by rfl) (.tmp 31) (.tmp 48) 29 36 (.slice none 0 0) 24 rfl Tryz.underlying29 info36 rfl (by decide) (by omega) u9 x9_1 y476 [.slice Ao25 y476.length co25] (fun _ => True) (fun k_ => some k_ = (.slice Ao25 y476.length co25 : Value).ownBlock) rfl rfl ?aP (fun k_ hk_ => ((Kd.R_mono (ok' := fun k_ => ((fun _ => True)) k_ ∧ some k_ ≠ (u9 : Value).ownBlock) (Kd.R_apart' (HO478.out) (Kd.S_typed HO_9.out) (by decide)) (fun k_ hk => ⟨trivial, hk.2⟩))).1 k_ hk_.symm) ?aF ?aO ?aB ?aS ?aL ?_
   (case aP => exact Kd.M_row (Kd.R_mono (Kd.R_tight rfl (Kd.R_mono (ok' := fun k_ => ((fun _ => True)) k_ ∧ some k_ ≠ (u9 : Value).ownBlock) (Kd.R_apart' (HO478.out) (Kd.S_typed HO_9.out) (by decide)) (fun k_ hk => ⟨trivial, hk.2⟩))) (fun _ h_ => h_)))
   (case aB => exact (qB HB.out))
   (case aF => exact (fun _ _ => trivial))
   (case aO => exact (by (with_reducible repeat (first | apply Kd.S_alloc | apply Kd.S_drewN | apply Kd.S_drew)); exact Kd.S_mono HO_9.out (fun k_ hk => ⟨trivial, fun e_ => hk.2 e_⟩)))
   (case aS => exact (below_size (qB HB.out)))
   (case aL => have := LMc18.out; omega)
   intro v480 w24 ho hb hg hat
   rw [← Ny479.out] at ho
   have n0_ := Aside0.mk (Kd.R_over' (qR HO_7.out) (Kd.S_typed (by (with_reducible repeat (first | apply Kd.S_alloc | apply Kd.S_drewN | apply Kd.S_drew)); exact HO_9.out)) (by decide) hg)
   have n1_ := Aside0.mk (Kd.R_over' (qR HO_8.out) (Kd.S_typed (by (with_reducible repeat (first | apply Kd.S_alloc | apply Kd.S_drewN | apply Kd.S_drew)); exact HO_9.out)) (by decide) hg)
   have n2_ := Aside0.mk (hb)
   have n3_ := Aside0.mk (ho)
   clear HO_7
   clear HO_8
   clear HB
   clear HO_9
   clear HO478
   have HO_7 := n0_
   have HO_8 := n1_
   have HB := n2_
   have HO481 := n3_
   clear n0_ n1_ n2_ n3_
   clear ho hb hg hat
   refine hK.out _ _ ?_
   clear hK K
   refine norm_ (a' := ?_) ?_ ?_
   rotate_left
   ·
    show Act.put _ (some 49) _ = _
    simp only [Act.put, List.setIfInBounds_toArray, List.set_cons_zero, List.set_cons_succ, i64_w, i32_w]
    rfl
   refine pure_ (i := 19) (N := some 9) (v := ?_) (a' := ?_) #[true, true, true, true, true, true, true, true, true, true, true, true, true, true, true, true, true, true, true, true] rfl rfl (any_of HT_.out (by kernel_rfl)) (fun _ _ _ h => h) (Or.inl ⟨by rfl, ?_⟩) ?_ ?_
   rotate_left
   ·
    intro w'
    go_simp
    with_reducible rfl
   rotate_left
   ·
    simp only [Act.put, List.setIfInBounds_toArray, List.set_cons_zero, List.set_cons_succ, i64_w, i32_w]
    rfl
   refine done_ (done_of HT_.out (by kernel_rfl)) ?_
   try go_wp2
   go_roundg k1
   case measure => have := HK1.out; omega
   case rel => exact ⟨(y479), (wrap64 (x10_1 + 1)), qF, H', ⟨by have := HK1.out; omega⟩, ⟨qR HO_7.out⟩, ⟨qR HO_8.out⟩, ⟨by (with_reducible repeat (first | apply Kd.S_alloc | apply Kd.S_drewN | apply Kd.S_drew)); exact HO481.out⟩, ⟨qB HB.out⟩⟩
end Go.Proofs.YtgfnkdoennbipaaGreat.PF

namespace Go.Proofs.YtgfnkdoennbipaaGreat.PF
open Go.RowKit Go.Proofs.YtgfnkdoennbipaaGreatW.PrintWords Go.Proofs.YtgfnkdoennbipaaGreatW.PrintLast Go.Proofs.YtgfnkdoennbipaaGreatW.PrintMore
attribute [local go_sem] max2_int min2_int max_two min_two max_three min_three max_four min_four   -- for this text's walks alone
set_option linter.unusedVariables false
set_option linter.unusedSimpArgs false

/-! ### impl_CountCycles_1: function 47 -/
def impl_CountCycles_1.f (a0 : Int) : Option (Bool) := (impl_isLength.f a0).bind fun t483 => (some t483)
set_option maxHeartbeats 8000000 in
set_option maxRecDepth 100000 in
theorem impl_CountCycles_1.calls (g0 : Nat) (a0 : Int) (r : Bool) (w : World) (hb0 : w.heap[g0]? = some (.cells #[.int .i64 a0] 2 (0, 0))) (h : impl_CountCycles_1.f a0 = some r) :
  Calls Tryz.prog 47 #[.pointer (some ⟨g0, 0, none⟩)] w fun e w' => e = .returned (.bool r) ∧ Drawn0 w w' := by
 have BK482 := Aside0.mk hb0
 clear hb0
 have H : ((impl_isLength.f a0).bind fun t483 => (some t483)) = some r := h
 clear h
 replace H := qN H
 obtain ⟨t483, A2, H⟩ := H
 try dsimp only at H
 obtain rfl := Option.some.inj H
 have hcz3_0 : w.cell? ⟨g0, 0, none⟩ = some (.int .i64 a0) := (blk_cell BK482.out 0).trans rfl
 have hfz3_0 := blk_frozen BK482.out 0
 go_enter Tryz.func47, Tryz.ntmps47
 go_wp2_with (first | ((with_reducible refine gate_callee (f := 37) rfl ?_); refine goesL_ (some 3) rfl rfl Tryz.func37 (by kernel_rfl) rfl #[.int .i64 a0] rfl qV ?_; (with_reducible refine (impl_isLength.calls a0 t483 _ A2.out).mono ?_); rintro e w' ⟨rfl, ⟨nd, rfl⟩⟩; refine ⟨_, rfl, ?_⟩))
 go_ret
 exact ⟨by first | rfl | (simp; done) | (simp [*]; done) | (simp; rw [Bool.eq_iff_iff]; simp; done), by repeat (first | exact Drawn0.refl _ | apply Drawn0.step)⟩

end Go.Proofs.YtgfnkdoennbipaaGreat.PF

namespace Go.Proofs.YtgfnkdoennbipaaGreat.PF
open Go.RowKit Go.Proofs.YtgfnkdoennbipaaGreatW.PrintWords Go.Proofs.YtgfnkdoennbipaaGreatW.PrintLast Go.Proofs.YtgfnkdoennbipaaGreatW.PrintMore
attribute [local go_sem] max2_int min2_int max_two min_two max_three min_three max_four min_four   -- for this text's walks alone
set_option linter.unusedVariables false
set_option linter.unusedSimpArgs false

/-! ### spec_CountCycles: function 15 -/
def spec_CountCycles.f (k : Nat) (a0 : ByteArray) (a1 : Int) : Option (Int × Int) := (spec_l05Code.f k a0 a1).bind fun t495 => (if t495 = 0 then ((spec_l01Factors.f k a0 a1).bind fun t496 => (if (t496.length : Int) = 0 then (some (0, 0)) else ((spec_l01Factors.f k a0 (wrap64 (a1 + 1))).bind fun t499 => (some (wrap64 ((wrap64 ((t499.length : Int) - (t496.length : Int))) + 1), 0))))) else (some (0, t495)))
theorem spec_CountCycles.mono : ∀ a0 a1 k, LeO (spec_CountCycles.f k a0 a1) (spec_CountCycles.f (k + 1) a0 a1) := by
 intro a0 a1 k
 unfold spec_CountCycles.f
 with_reducible repeat' first
   | exact spec_l01Factors.mono _ _ _
   | exact spec_l05Code.mono _ _ _
   | exact LeO.refl _
   | exact LeO.none _
   | refine LeO.ite ?_ ?_
   | refine LeO.bind ?_ (fun _ => ?_)
set_option maxHeartbeats 8000000 in
set_option maxRecDepth 100000 in
theorem spec_CountCycles.calls (k : Nat) (a0 : ByteArray) (a1 : Int) (r1 : Int) (r2 : Int) (w : World) (h : spec_CountCycles.f k a0 a1 = some (r1, r2)) :
  Calls Tryz.prog 15 #[.string a0, .int .i64 a1] w fun e w' => e = .returned (.tuple #[.int .i64 r1, .int .i64 r2]) ∧ Below w.heap.size w w' := by
 have HB := Aside0.mk (Below.refl w.heap.size w)
 have H : ((spec_l05Code.f k a0 a1).bind fun t495 => (if t495 = 0 then ((spec_l01Factors.f k a0 a1).bind fun t496 => (if (t496.length : Int) = 0 then (some (0, 0)) else ((spec_l01Factors.f k a0 (wrap64 (a1 + 1))).bind fun t499 => (some (wrap64 ((wrap64 ((t499.length : Int) - (t496.length : Int))) + 1), 0))))) else (some (0, t495)))) = some (r1, r2) := h
 clear h
 replace H := qN H
 obtain ⟨t495, A3, H⟩ := H
 try dsimp only at H
 by_cases c4 : t495 = 0
 rotate_left
 ·
  rw [if_neg c4] at H
  obtain ⟨c4b0, c4b1⟩ := zF c4
  simp only [Option.some.injEq, Prod.mk.injEq] at H
  obtain ⟨rfl, rfl⟩ := H
  go_enter Tryz.func15, Tryz.ntmps15
  go_wp2_with (first | ((with_reducible refine gate_callee (f := 33) rfl ?_); refine goesL_ (some 10) rfl rfl Tryz.func33 (by kernel_rfl) rfl #[.string a0, .int .i64 a1] rfl qV ?_; (with_reducible refine (spec_l05Code.calls k a0 a1 t495 _ A3.out).mono ?_); rintro e w' ⟨rfl, ⟨nd, rfl⟩⟩; refine ⟨_, rfl, ?_⟩))
  go_ret2
  exact ⟨qE, qB HB.out⟩

 rw [if_pos c4] at H
 obtain ⟨c4b0, c4b1⟩ := zT c4
 clear c4
 replace H := qN H
 obtain ⟨t496, A5, H⟩ := H
 try dsimp only at H
 by_cases c6 : (t496.length : Int) = 0
 ·
  rw [if_pos c6] at H
  obtain ⟨c6b0, c6b1⟩ := zT c6
  clear c6
  simp only [Option.some.injEq, Prod.mk.injEq] at H
  obtain ⟨rfl, rfl⟩ := H
  go_enter Tryz.func15, Tryz.ntmps15
  go_wp2_with (first | ((with_reducible refine gate_callee (f := 33) rfl ?_); refine goesL_ (some 10) rfl rfl Tryz.func33 (by kernel_rfl) rfl #[.string a0, .int .i64 a1] rfl qV ?_; (with_reducible refine (spec_l05Code.calls k a0 a1 t495 _ A3.out).mono ?_); rintro e w' ⟨rfl, ⟨nd, rfl⟩⟩; refine ⟨_, rfl, ?_⟩) | ((with_reducible refine gate_callee (f := 45) rfl ?_); refine goesL_ (some 16) rfl rfl Tryz.func45 (by kernel_rfl) rfl #[.string a0, .int .i64 a1] rfl qV ?_; (with_reducible refine (spec_l01Factors.calls k a0 a1 t496 _ A5.out).mono ?_); rintro e w7 ⟨v497, rfl, ho0, hb⟩; refine ⟨_, rfl, ?_⟩; have HO498 := Aside0.mk (Kd.R_lower ho0 (below_size (qB HB.out))); replace HB := Aside0.mk (below_step (qB HB.out) hb); obtain ⟨Ao8, co8, eo8⟩ := Kd.R_slice HO498.out; subst eo8))
  go_ret2
  exact ⟨qE, qB HB.out⟩
 rw [if_neg c6] at H
 obtain ⟨c6b0, c6b1⟩ := zF c6
 have c6b2 : ¬ (t496 = []) := fun h_ => c6 (by rw [h_]; rfl)
 replace H := qN H
 obtain ⟨t499, A9, H⟩ := H
 try dsimp only at H
 simp only [Option.some.injEq, Prod.mk.injEq] at H
 obtain ⟨rfl, rfl⟩ := H
 go_enter Tryz.func15, Tryz.ntmps15
 go_wp2_with (first | ((with_reducible refine gate_callee (f := 33) rfl ?_); refine goesL_ (some 10) rfl rfl Tryz.func33 (by kernel_rfl) rfl #[.string a0, .int .i64 a1] rfl qV ?_; (with_reducible refine (spec_l05Code.calls k a0 a1 t495 _ A3.out).mono ?_); rintro e w' ⟨rfl, ⟨nd, rfl⟩⟩; refine ⟨_, rfl, ?_⟩) | ((with_reducible refine gate_callee (f := 45) rfl ?_); refine goesL_ (some 16) rfl rfl Tryz.func45 (by kernel_rfl) rfl #[.string a0, .int .i64 a1] rfl qV ?_; (with_reducible refine (spec_l01Factors.calls k a0 a1 t496 _ A5.out).mono ?_); rintro e w10 ⟨v497, rfl, ho0, hb⟩; refine ⟨_, rfl, ?_⟩; have HO498 := Aside0.mk (Kd.R_lower ho0 (below_size (qB HB.out))); replace HB := Aside0.mk (below_step (qB HB.out) hb); obtain ⟨Ao11, co11, eo11⟩ := Kd.R_slice HO498.out; subst eo11) | ((with_reducible refine gate_callee (f := 45) rfl ?_); refine goesL_ (some 23) rfl rfl Tryz.func45 (by kernel_rfl) rfl #[.string a0, .int .i64 (wrap64 (a1 + 1))] rfl qV ?_; (with_reducible refine (spec_l01Factors.calls k a0 (wrap64 (a1 + 1)) t499 _ A9.out).mono ?_); rintro e w12 ⟨v500, rfl, ho0, hb⟩; refine ⟨_, rfl, ?_⟩; have HO501 := Aside0.mk (Kd.R_lower (Kd.R_new' ho0 (Kd.R_lt (qR HO498.out))) (below_size (qB HB.out))); replace HO498 := Aside0.mk (Kd.R_elder' (qR HO498.out) (Kd.R_base ho0) hb); replace HB := Aside0.mk (below_step (qB HB.out) hb); obtain ⟨Ao13, co13, eo13⟩ := Kd.R_slice HO501.out; subst eo13))
 go_ret2
 exact ⟨qE, qB HB.out⟩
end Go.Proofs.YtgfnkdoennbipaaGreat.PF
