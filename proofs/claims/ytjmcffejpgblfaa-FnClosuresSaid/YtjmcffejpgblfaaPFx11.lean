-- an own text, written by a program of this place (wip/tools)
import Derived.Test.YtjmcffejpgblfaaPFx0
import Derived.Test.YtjmcffejpgblfaaPFx9
import Derived.Test.YtjmcffejpgblfaaPFx6
import Derived.Test.YtjmcffejpgblfaaPFGivB
import Derived.Test.YtjmcffejpgblfaaPFx2
import Derived.Test.YtjmcffejpgblfaaPFx5
import Derived.Test.YtjmcffejpgblfaaPFGivA
namespace Go.Proofs.Ytjmcffejpgblfaa.PF
open Go.RowKit Go.Proofs.YtjmcffejpgblfaaW.PrintWords Go.Proofs.YtjmcffejpgblfaaW.PrintLast Go.Proofs.YtjmcffejpgblfaaW.PrintMore
attribute [local go_sem] max2_int min2_int max_two min_two max_three min_three max_four min_four   -- for this text's walks alone
set_option linter.unusedVariables false
set_option linter.unusedSimpArgs false

/-! ### impl_palindromes: function 44 -/
def impl_palindromes.l0 : Nat → ByteArray → List ByteArray → Int → Option (List ByteArray)
 | 0, _, _, _ => none
 | k + 1, x0, x3, x4 => if x4 ≤ (x0.size : Int) then ((impl_factors.f k x0 x4).bind fun t534 => ((slices_DeleteFunc_string_string.f k t534 (fun z0_ => impl_palindromes_1.f z0_)).bind fun t537 => (if x3.length + t537.length < 8796093022208 then (impl_palindromes.l0 k x0 (x3 ++ t537) (wrap64 (x4 + 1))) else (none)))) else (some x3)
def impl_palindromes.f (k : Nat) (a0 : ByteArray) : Option (List ByteArray) := impl_palindromes.l0 k a0 ([] : List ByteArray) 1
theorem impl_palindromes.mono_l : ∀ k, (∀ y0 y1 y2, LeO (impl_palindromes.l0 k y0 y1 y2) (impl_palindromes.l0 (k + 1) y0 y1 y2))
 | 0 => fun _ _ _ r h => by simp [impl_palindromes.l0] at h
 | k + 1 => by
  have ih0 := impl_palindromes.mono_l k
  ·
   intro y0 y1 y2
   unfold impl_palindromes.l0
   repeat' first
   | (with_reducible exact ih0 _ _ _)
   | (with_reducible exact impl_factors.mono _ _ _)
   | (with_reducible exact LeO.refl _)
   | (with_reducible exact LeO.none _)
   | (with_reducible refine LeO.ite ?_ ?_)
   | (with_reducible refine LeO.bind ?_ (fun _ => ?_))
   | refine slices_DeleteFunc_string_string.monoP (fun _ => ?_)
theorem impl_palindromes.mono : ∀ a0 k, LeO (impl_palindromes.f k a0) (impl_palindromes.f (k + 1) a0) := by
 intro a0 k
 have ih0 := impl_palindromes.mono_l k
 unfold impl_palindromes.f
 repeat' first
   | (with_reducible exact ih0 _ _ _)
   | (with_reducible exact impl_factors.mono _ _ _)
   | (with_reducible exact LeO.refl _)
   | (with_reducible exact LeO.none _)
   | (with_reducible refine LeO.ite ?_ ?_)
   | (with_reducible refine LeO.bind ?_ (fun _ => ?_))
   | refine slices_DeleteFunc_string_string.monoP (fun _ => ?_)
set_option maxHeartbeats 8000000 in
set_option maxRecDepth 100000 in
theorem impl_palindromes.calls (k : Nat) (a0 : ByteArray) (r : List ByteArray) (w : World) (h : impl_palindromes.f k a0 = some r) :
  Calls Try.prog 44 #[.string a0] w fun e w' => ∃ v0_ : Value, e = .returned (v0_) ∧ Kd.R Kd.string 9 w' w.heap.size (fun _ => True) v0_ r ∧ Below w.heap.size w w' := by
 have HB := Aside0.mk (Below.refl w.heap.size w)
 have H : (impl_palindromes.l0 k a0 ([] : List ByteArray) 1) = some r := h
 clear h
 have H' := Aside0.mk H
 clear H
 go_enter Try.func44, Try.ntmps44
 go_wp2
 go_loopg [3, 4] k (fun kq v3 v4 w' => ∃ (x3_1 : List ByteArray) (x4_1 : Int), v4 = .int .i64 x4_1 ∧ Aside0 (impl_palindromes.l0 kq a0 x3_1 x4_1 = some r) ∧ Aside0 (kq ≤ k) ∧ Aside0 (Kd.R Kd.string 9 w' w.heap.size (fun _ => True) v3 x3_1) ∧ Aside0 (Below w.heap.size w w'))
 case atStart => exact ⟨(([] : List ByteArray)), (1), qF, H', ⟨Nat.le_refl _⟩, ⟨by first | exact Kd.R_nil _ _ _ _ _ | exact Kd.N_nil _ _ _ _ _ | exact Kd.V_nil _ _ _ _ _ | exact Kd.Q_nil _ _ _ _ _ | exact Kd.S_nil _ _ _ _ _⟩, ⟨qB HB.out⟩⟩
 case round =>
  clear H'
  obtain ⟨x3_1, x4_1, rfl, HA, HK1, HO_3, HB⟩ := hrel
  cases gk with
  | zero => exact absurd HA.out (by simp [impl_palindromes.l0])
  | succ k1 =>
   have H := HA.out
   clear HA
   simp only [impl_palindromes.l0] at H
   by_cases c2 : x4_1 ≤ (a0.size : Int)
   rotate_left
   ·
    rw [if_neg c2] at H
    have c2b0 : decide (x4_1 ≤ (a0.size : Int)) = false := decide_eq_false c2
    clear c2
    obtain rfl := Option.some.inj H
    go_wp2
    go_ret
    exact ⟨_, qE, qR HO_3.out, qB HB.out⟩

   rw [if_pos c2] at H
   have c2b0 : decide (x4_1 ≤ (a0.size : Int)) = true := decide_eq_true c2
   clear c2
   replace H := qN H
   obtain ⟨t534, A3, H⟩ := H
   try dsimp only at H
   replace H := qN H
   obtain ⟨t537, A4, H⟩ := H
   try dsimp only at H
   by_cases c5 : x3_1.length + t537.length < 8796093022208
   rotate_left
   ·
    rw [if_neg c5] at H
    exact absurd H (by simp)
   rw [if_pos c5] at H
   have LMc5 := Aside0.mk c5
   clear c5
   obtain ⟨y540, hy540⟩ : ∃ y_ : List ByteArray, y_ = (x3_1 ++ t537) := ⟨_, rfl⟩
   replace H : (impl_palindromes.l0 k1 a0 y540 (wrap64 (x4_1 + 1))) = some r := by first | (rw [hy540]; with_reducible exact H) | (have H2_ := (Option.bind_some _ _).symm.trans H; rw [hy540]; with_reducible exact H2_) | (have H2_ := (Option.bind_some _ _).symm.trans H; with_reducible exact H2_) | with_reducible exact H | (rw [hy540]; exact H) | exact H
   have Ny540 := Aside0.mk hy540
   clear hy540
   have H' := Aside0.mk H
   clear H
   go_wp2_with (first | ((with_reducible refine gate_callee (f := 41) rfl ?_); refine goesL_ (some 14) rfl rfl Try.func41 (by kernel_rfl) rfl #[.string a0, .int .i64 x4_1] rfl qV ?_; (with_reducible refine (impl_factors.calls k1 a0 x4_1 t534 _ A3.out).mono ?_); rintro e w6 ⟨v535, rfl, ho0, hb⟩; refine ⟨_, rfl, ?_⟩; have HO536 := Aside0.mk (Kd.R_lower (Kd.R_new' ho0 (Kd.R_lt (qR HO_3.out))) (below_size (qB HB.out))); replace HO_3 := Aside0.mk (Kd.R_elder' (qR HO_3.out) (Kd.R_base ho0) hb); replace HB := Aside0.mk (below_step (qB HB.out) hb); obtain ⟨Ao7, co7, eo7⟩ := Kd.R_slice HO536.out; subst eo7) | ((with_reducible refine gate_callee (f := 58) rfl ?_); refine goesL_ (some 15) rfl rfl Try.func58 (by kernel_rfl) rfl #[.slice Ao7 t534.length co7, .func (.func 59) #[] #[]] rfl qV ?_; (with_reducible refine (slices_DeleteFunc_string_string.calls k1 (fun k_ => some k_ = (.slice Ao7 t534.length co7 : Value).ownBlock) (.slice Ao7 t534.length co7) t534 (fun z0_ => impl_palindromes_1.f z0_) 59 #[] t537 w _ ?side1 ?side2 ?side3 A4.out).mono ?_); (case side1 => exact qB HB.out); (case side2 => exact Kd.R_tight rfl HO536.out); (case side3 => exact ⟨Go.Proofs.enters_of Try.func59 (by kernel_rfl) rfl, fun z0_ W_ hW_ r_ h_ => (impl_palindromes_1.calls z0_ r_ W_  h_).mono (fun e_ W2_ h2_ => ⟨h2_.1, by first | exact h2_.2 | exact h2_.2.below⟩)⟩); rintro e w8 ⟨v538, rfl, ho0, hb, hkp⟩; refine ⟨_, rfl, ?_⟩; have HO539 := Aside0.mk (Kd.R_mono (ok' := fun k_ => some k_ ≠ (u3 : Value).ownBlock) ho0 (fun k_ hk_ => Or.elim hk_ (fun hs_ => fun e_ => (((HO_3.out).1 k_ e_.symm).2) hs_) (fun hn_ => (Kd.fresh' (Kd.R_lt (qR HO_3.out)) k_ hn_)))); replace HO_3 := Aside0.mk (Kd.R_mono (ok' := fun k_ => some k_ ≠ (v538 : Value).ownBlock) (Kd.R_keptB (HO_3.out) hkp (fun k_ hk_ hs_ => (hk_.2) hs_)) (fun k_ hk_ => fun e_ => Or.elim (ho0.1 k_ e_.symm) (fun hs_ => hk_.2.1 hs_) (fun hn_ => Nat.not_le.2 hk_.2.2 hn_))); replace HB := Aside0.mk (hb); clear HO536; obtain ⟨Ao10, co10, eo10⟩ := Kd.R_slice HO539.out; subst eo10) | ((with_reducible refine gate_builtin (b := .append) (xs := #[.tmp 11, .tmp 15]) rfl ?_); at_builtin; refine Kd.R_append_rows Kd.string (w0 := w) w.heap.size rfl (.tmp 11) (.tmp 15) 25 9 (.string ⟨#[]⟩) 16 rfl Try.underlying25 info9 rfl (by decide) (by omega) u3 x3_1 t537 _ _ _ (fun k_ => some k_ ≠ (.slice Ao10 t537.length co10 : Value).ownBlock) (fun _ => False) rfl rfl ?aO ?aR (fun _ _ h => h) (fun _ h => h.elim) ?aF ?aB ?aS ?aL ?_; (case aR => exact qC (Kd.R_reads' HO539.out).2.2); (case aB => exact (qB HB.out)); (case aF => exact (fun k_ hk => Kd.fresh' (Kd.R_lt (qR HO539.out)) k_ hk)); (case aO => exact (qR HO_3.out)); (case aS => exact (below_size (qB HB.out))); (case aL => have := LMc5.out; omega); intro v541 w9 ho hb hg hat; rw [← Ny540.out] at ho; replace HO539 := Aside0.mk (Kd.R_after (ok := (fun _ => True)) (by (with_reducible repeat (first | apply Kd.R_alloc | apply Kd.R_drewN | apply Kd.R_drew)); exact Kd.R_mono HO539.out (fun _ hk => ⟨trivial, hk⟩)) hg hat); replace HB := Aside0.mk (hb); have HO542 := Aside0.mk (ho); clear HO_3; clear ho hb hg hat))
   go_roundg k1
   case measure => have := HK1.out; omega
   case rel => exact ⟨(y540), (wrap64 (x4_1 + 1)), qF, H', ⟨by have := HK1.out; omega⟩, ⟨by (with_reducible repeat (first | apply Kd.R_alloc | apply Kd.R_drewN | apply Kd.R_drew)); exact Kd.R_mono HO542.out (fun _ hk => trivial)⟩, ⟨qB HB.out⟩⟩
end Go.Proofs.Ytjmcffejpgblfaa.PF

namespace Go.Proofs.Ytjmcffejpgblfaa.PF
open Go.RowKit Go.Proofs.YtjmcffejpgblfaaW.PrintWords Go.Proofs.YtjmcffejpgblfaaW.PrintLast Go.Proofs.YtjmcffejpgblfaaW.PrintMore
attribute [local go_sem] max2_int min2_int max_two min_two max_three min_three max_four min_four   -- for this text's walks alone
set_option linter.unusedVariables false
set_option linter.unusedSimpArgs false

/-! ### impl_DefectOf: function 23 -/
def impl_DefectOf.f (k : Nat) (a0 : ByteArray) : Option (Int × Int) := (impl_wordCode.f k (impl_always.f) (([a0] : List ByteArray))).bind fun t546 => (if t546 = 0 then ((impl_size.f a0).bind fun t547 => ((impl_palindromes.f k a0).bind fun t548 => (some (wrap64 (t547 - (t548.length : Int)), 0)))) else (some (0, t546)))
theorem impl_DefectOf.mono : ∀ a0 k, LeO (impl_DefectOf.f k a0) (impl_DefectOf.f (k + 1) a0) := by
 intro a0 k
 unfold impl_DefectOf.f
 repeat' first
   | (with_reducible exact impl_palindromes.mono _ _)
   | (with_reducible exact LeO.refl _)
   | (with_reducible exact LeO.none _)
   | (with_reducible refine LeO.ite ?_ ?_)
   | (with_reducible refine LeO.bind ?_ (fun _ => ?_))
   | refine impl_wordCode.monoP ?_
set_option maxHeartbeats 8000000 in
set_option maxRecDepth 100000 in
theorem impl_DefectOf.calls (k : Nat) (a0 : ByteArray) (r1 : Int) (r2 : Int) (w : World) (h : impl_DefectOf.f k a0 = some (r1, r2)) :
  Calls Try.prog 23 #[.string a0] w fun e w' => e = .returned (.tuple #[.int .i64 r1, .int .i64 r2]) ∧ Below w.heap.size w w' := by
 have HB := Aside0.mk (Below.refl w.heap.size w)
 have H : ((impl_wordCode.f k (impl_always.f) (([a0] : List ByteArray))).bind fun t546 => (if t546 = 0 then ((impl_size.f a0).bind fun t547 => ((impl_palindromes.f k a0).bind fun t548 => (some (wrap64 (t547 - (t548.length : Int)), 0)))) else (some (0, t546)))) = some (r1, r2) := h
 clear h
 obtain ⟨y543, hy543⟩ : ∃ y_ : List ByteArray, y_ = (([a0] : List ByteArray)) := ⟨_, rfl⟩
 replace H : ((impl_wordCode.f k (impl_always.f) y543).bind fun t546 => (if t546 = 0 then ((impl_size.f a0).bind fun t547 => ((impl_palindromes.f k a0).bind fun t548 => (some (wrap64 (t547 - (t548.length : Int)), 0)))) else (some (0, t546)))) = some (r1, r2) := by first | (rw [hy543]; with_reducible exact H) | (have H2_ := (Option.bind_some _ _).symm.trans H; rw [hy543]; with_reducible exact H2_) | (have H2_ := (Option.bind_some _ _).symm.trans H; with_reducible exact H2_) | with_reducible exact H | (rw [hy543]; exact H) | exact H
 have Ny543 := Aside0.mk hy543
 clear hy543
 replace H := qN H
 obtain ⟨t546, A2, H⟩ := H
 try dsimp only at H
 by_cases c3 : t546 = 0
 rotate_left
 ·
  rw [if_neg c3] at H
  obtain ⟨c3b0, c3b1⟩ := zF c3
  simp only [Option.some.injEq, Prod.mk.injEq] at H
  obtain ⟨rfl, rfl⟩ := H
  go_enter Try.func23, Try.ntmps23
  go_wp2_with (first | ((with_reducible refine gate_dst (N := 6) rfl ?_); refine Kd.R_lit Kd.string _ 9 ?hg (N := 6) ?hd (xs := ([a0] : List ByteArray)) (inner := [.string a0]) (ok := fun _ => True) (okp := fun _ => True) ?hr ?hp (fun _ hk => hk) trivial (Below.refl _ _) (Nat.le_refl _) (by simp) ?_; (case hd => rfl); (case hg => rfl); (case hr => first | (go_simp; done) | (go_simp; rfl)); (case hp => exact (Reps.one (show Kd.M Kd.string _ _ _ a0 [.string a0] from rfl) (Reps.none _ _))); intro v544 w12 ho13 hb hg_ hnew_; clear hg_ hnew_; (first | rw [← Ny543.out] at ho13 | (simp only [Int.reduceToNat] at ho13; rw [← Ny543.out] at ho13)); have HO545 := Aside0.mk (Kd.R_lower ho13 (below_size (qB HB.out))); replace HB := Aside0.mk (below_step (qB HB.out) hb); clear hb ho13; obtain ⟨Ao14, co14, eo14⟩ := Kd.R_slice HO545.out; subst eo14) | ((with_reducible refine gate_callee (f := 27) rfl ?_); refine goesL_ (some 7) rfl rfl Try.func27 (by kernel_rfl) rfl #[.func (.func 28) #[] #[], .slice Ao14 y543.length co14] rfl qV ?_; (with_reducible refine (impl_wordCode.calls k (impl_always.f) 28 #[] _ _ y543 t546 _ ?side1 ?side2 ?side3 A2.out).mono ?_); (case side1 => exact qC (Kd.R_reads' HO545.out).2.2); (case side2 => exact (Kd.R_reads' HO545.out).2.1); (case side3 => exact ⟨Go.Proofs.enters_of Try.func28 (by kernel_rfl) rfl, fun W_ hW_ r_ h_ => (impl_always.calls  r_ W_  h_).mono (fun e_ W2_ h2_ => ⟨h2_.1, by first | exact h2_.2 | exact h2_.2.below⟩)⟩); rintro e w15 ⟨rfl, hb⟩; refine ⟨_, rfl, ?_⟩; replace HO545 := Aside0.mk (Kd.R_below (qR HO545.out) hb); replace HB := Aside0.mk (below_step (qB HB.out) hb)))
  go_ret2
  exact ⟨qE, qB HB.out⟩

 rw [if_pos c3] at H
 obtain ⟨c3b0, c3b1⟩ := zT c3
 clear c3
 replace H := qN H
 obtain ⟨t547, A4, H⟩ := H
 try dsimp only at H
 replace H := qN H
 obtain ⟨t548, A5, H⟩ := H
 try dsimp only at H
 simp only [Option.some.injEq, Prod.mk.injEq] at H
 obtain ⟨rfl, rfl⟩ := H
 go_enter Try.func23, Try.ntmps23
 go_wp2_with (first | ((with_reducible refine gate_dst (N := 6) rfl ?_); refine Kd.R_lit Kd.string _ 9 ?hg (N := 6) ?hd (xs := ([a0] : List ByteArray)) (inner := [.string a0]) (ok := fun _ => True) (okp := fun _ => True) ?hr ?hp (fun _ hk => hk) trivial (Below.refl _ _) (Nat.le_refl _) (by simp) ?_; (case hd => rfl); (case hg => rfl); (case hr => first | (go_simp; done) | (go_simp; rfl)); (case hp => exact (Reps.one (show Kd.M Kd.string _ _ _ a0 [.string a0] from rfl) (Reps.none _ _))); intro v544 w6 ho7 hb hg_ hnew_; clear hg_ hnew_; (first | rw [← Ny543.out] at ho7 | (simp only [Int.reduceToNat] at ho7; rw [← Ny543.out] at ho7)); have HO545 := Aside0.mk (Kd.R_lower ho7 (below_size (qB HB.out))); replace HB := Aside0.mk (below_step (qB HB.out) hb); clear hb ho7; obtain ⟨Ao8, co8, eo8⟩ := Kd.R_slice HO545.out; subst eo8) | ((with_reducible refine gate_callee (f := 27) rfl ?_); refine goesL_ (some 7) rfl rfl Try.func27 (by kernel_rfl) rfl #[.func (.func 28) #[] #[], .slice Ao8 y543.length co8] rfl qV ?_; (with_reducible refine (impl_wordCode.calls k (impl_always.f) 28 #[] _ _ y543 t546 _ ?side1 ?side2 ?side3 A2.out).mono ?_); (case side1 => exact qC (Kd.R_reads' HO545.out).2.2); (case side2 => exact (Kd.R_reads' HO545.out).2.1); (case side3 => exact ⟨Go.Proofs.enters_of Try.func28 (by kernel_rfl) rfl, fun W_ hW_ r_ h_ => (impl_always.calls  r_ W_  h_).mono (fun e_ W2_ h2_ => ⟨h2_.1, by first | exact h2_.2 | exact h2_.2.below⟩)⟩); rintro e w9 ⟨rfl, hb⟩; refine ⟨_, rfl, ?_⟩; replace HO545 := Aside0.mk (Kd.R_below (qR HO545.out) hb); replace HB := Aside0.mk (below_step (qB HB.out) hb)) | ((with_reducible refine gate_callee (f := 43) rfl ?_); refine goesL_ (some 12) rfl rfl Try.func43 (by kernel_rfl) rfl #[.string a0] rfl qV ?_; (with_reducible refine (impl_size.calls a0 t547 _ A4.out).mono ?_); rintro e w' ⟨rfl, ⟨nd, rfl⟩⟩; refine ⟨_, rfl, ?_⟩) | ((with_reducible refine gate_callee (f := 44) rfl ?_); refine goesL_ (some 14) rfl rfl Try.func44 (by kernel_rfl) rfl #[.string a0] rfl qV ?_; (with_reducible refine (impl_palindromes.calls k a0 t548 _ A5.out).mono ?_); rintro e w10 ⟨v549, rfl, ho0, hb⟩; refine ⟨_, rfl, ?_⟩; have HO550 := Aside0.mk (Kd.R_lower (Kd.R_new' ho0 (Kd.R_lt (qR HO545.out))) (below_size (qB HB.out))); replace HO545 := Aside0.mk (Kd.R_elder' (qR HO545.out) (Kd.R_base ho0) hb); replace HB := Aside0.mk (below_step (qB HB.out) hb); obtain ⟨Ao11, co11, eo11⟩ := Kd.R_slice HO550.out; subst eo11))
 go_ret2
 exact ⟨qE, qB HB.out⟩
end Go.Proofs.Ytjmcffejpgblfaa.PF
