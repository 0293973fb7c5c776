-- an own text, written by a program of this place (wip/tools)
import Derived.Test.YtoadancbpgignaaPFx0
namespace Go.Proofs.Ytoadancbpgignaa.PF
open Go.RowKit Go.Proofs.YtoadancbpgignaaW.PrintWords Go.Proofs.YtoadancbpgignaaW.PrintLast Go.Proofs.YtoadancbpgignaaW.PrintMore
attribute [local go_sem] max2_int min2_int max_two min_two max_three min_three max_four min_four   -- for this text's walks alone
set_option linter.unusedVariables false
set_option linter.unusedSimpArgs false

/-! ### spec_l01Reversed: function 86 -/
def spec_l01Reversed.l0 : Nat → ByteArray → List Int → Int → Option (ByteArray)
 | 0, _, _, _ => none
 | k + 1, x0, x3, x4 => if x4 ≥ 0 then (if 0 ≤ x4 then (if x4 < (x0.size : Int) then (if x3.length < 140737488355328 then (spec_l01Reversed.l0 k x0 (x3 ++ [bt x0 x4]) (wrap64 (x4 - 1))) else (none)) else (none)) else (none)) else (some (strOfNums x3))
def spec_l01Reversed.f (k : Nat) (a0 : ByteArray) : Option (ByteArray) := spec_l01Reversed.l0 k a0 (([] : List Int)) (wrap64 ((a0.size : Int) - 1))
theorem spec_l01Reversed.mono_l : ∀ k, (∀ y0 y1 y2, LeO (spec_l01Reversed.l0 k y0 y1 y2) (spec_l01Reversed.l0 (k + 1) y0 y1 y2))
 | 0 => fun _ _ _ r h => by simp [spec_l01Reversed.l0] at h
 | k + 1 => by
  have ih0 := spec_l01Reversed.mono_l k
  ·
   intro y0 y1 y2
   unfold spec_l01Reversed.l0
   repeat' first
   | (with_reducible exact ih0 _ _ _)
   | (with_reducible exact LeO.refl _)
   | (with_reducible exact LeO.none _)
   | (with_reducible refine LeO.ite ?_ ?_)
   | (with_reducible refine LeO.bind ?_ (fun _ => ?_))
theorem spec_l01Reversed.mono : ∀ a0 k, LeO (spec_l01Reversed.f k a0) (spec_l01Reversed.f (k + 1) a0) := by
 intro a0 k
 have ih0 := spec_l01Reversed.mono_l k
 unfold spec_l01Reversed.f
 repeat' first
   | (with_reducible exact ih0 _ _ _)
   | (with_reducible exact LeO.refl _)
   | (with_reducible exact LeO.none _)
   | (with_reducible refine LeO.ite ?_ ?_)
   | (with_reducible refine LeO.bind ?_ (fun _ => ?_))
set_option maxHeartbeats 8000000 in
set_option maxRecDepth 100000 in
theorem spec_l01Reversed.calls (k : Nat) (a0 : ByteArray) (r : ByteArray) (w : World) (h : spec_l01Reversed.f k a0 = some r) :
  Calls Try.prog 86 #[.string a0] w fun e w' => e = .returned (.string r) ∧ Below w.heap.size w w' := by
 have HB := Aside0.mk (Below.refl w.heap.size w)
 have H : (spec_l01Reversed.l0 k a0 (([] : List Int)) (wrap64 ((a0.size : Int) - 1))) = some r := h
 clear h
 obtain ⟨y160, hy160⟩ : ∃ y_ : List Int, y_ = (([] : List Int)) := ⟨_, rfl⟩
 replace H : (spec_l01Reversed.l0 k a0 y160 (wrap64 ((a0.size : Int) - 1))) = some r := by first | (rw [hy160]; with_reducible exact H) | (have H2_ := (Option.bind_some _ _).symm.trans H; rw [hy160]; with_reducible exact H2_) | (have H2_ := (Option.bind_some _ _).symm.trans H; with_reducible exact H2_) | with_reducible exact H | (rw [hy160]; exact H) | exact H
 have Ny160 := Aside0.mk hy160
 clear hy160
 have H' := Aside0.mk H
 clear H
 go_enter Try.func86, Try.ntmps86
 go_wp2_with (first | ((with_reducible refine gate_dst (N := 5) rfl ?_); refine Kd.R_lit (Kd.int .u8) _ 5 ?hg (N := 5) ?hd (xs := ([] : List Int)) (inner := []) (ok := fun _ => True) (okp := fun _ => True) ?hr ?hp (fun _ hk => hk) trivial (Below.refl _ _) (Nat.le_refl _) (by simp) ?_; (case hd => rfl); (case hg => rfl); (case hr => first | (go_simp; done) | (go_simp; rfl)); (case hp => exact (Reps.none _ _)); intro v161 w2 ho3 hb hg_ hnew_; clear hg_ hnew_; (first | rw [← Ny160.out] at ho3 | (simp only [Int.reduceToNat] at ho3; rw [← Ny160.out] at ho3)); have n0_ := Aside0.mk (Kd.R_lower ho3 (below_size (qB HB.out))); have n1_ := Aside0.mk (below_step (qB HB.out) hb); clear HB; have HO162 := n0_; have HB := n1_; clear n0_ n1_; clear hb ho3))
 go_loopg [3, 4] k (fun kq v3 v4 w' => ∃ (x3_1 : List Int) (x4_1 : Int), v4 = .int .i64 x4_1 ∧ Aside0 (spec_l01Reversed.l0 kq a0 x3_1 x4_1 = some r) ∧ Aside0 (kq ≤ k) ∧ Aside0 (Kd.R (Kd.int .u8) 5 w' w.heap.size (fun _ => True) v3 x3_1) ∧ Aside0 (Below w.heap.size w w'))
 case atStart => exact ⟨(y160), (wrap64 ((a0.size : Int) - 1)), qF, H', ⟨Nat.le_refl _⟩, ⟨qR HO162.out⟩, ⟨qB HB.out⟩⟩
 case round =>
  clear H'
  obtain ⟨x3_1, x4_1, rfl, HA, HK1, HO_3, HB⟩ := hrel
  cases gk with
  | zero => exact absurd HA.out (by simp [spec_l01Reversed.l0])
  | succ k1 =>
   have H := HA.out
   clear HA
   simp only [spec_l01Reversed.l0] at H
   by_cases c4 : x4_1 ≥ 0
   ·
    rw [if_pos c4] at H
    have c4b0 : decide (0 ≤ x4_1) = true := decide_eq_true c4
    clear c4
    by_cases c5 : 0 ≤ x4_1
    ·
     rw [if_pos c5] at H
     have c5b0 : decide (0 ≤ x4_1) = true := decide_eq_true c5
     clear c5
     by_cases c6 : x4_1 < (a0.size : Int)
     ·
      rw [if_pos c6] at H
      have c6b0 : decide (x4_1 < (a0.size : Int)) = true := decide_eq_true c6
      clear c6
      by_cases c8 : x3_1.length < 140737488355328
      ·
       rw [if_pos c8] at H
       have LMc8 := Aside0.mk c8
       clear c8
       obtain ⟨y163, hy163⟩ : ∃ y_ : List Int, y_ = (x3_1 ++ [bt a0 x4_1]) := ⟨_, rfl⟩
       replace H : (spec_l01Reversed.l0 k1 a0 y163 (wrap64 (x4_1 - 1))) = some r := by first | (rw [hy163]; with_reducible exact H) | (have H2_ := (Option.bind_some _ _).symm.trans H; rw [hy163]; with_reducible exact H2_) | (have H2_ := (Option.bind_some _ _).symm.trans H; with_reducible exact H2_) | with_reducible exact H | (rw [hy163]; exact H) | exact H
       have Ny163 := Aside0.mk hy163
       clear hy163
       have H' := Aside0.mk H
       clear H
       have p7 : 0 ≤ (x4_1 : Int) := of_decide_eq_true (by first | (with_reducible assumption) | assumption)
       have q7 : x4_1 < (a0.size : Int) := of_decide_eq_true (by first | (with_reducible assumption) | assumption)
       have hx7 := bt_at a0 x4_1
       replace p7 := eq_true p7
       replace q7 := eq_true q7
       go_wp2_with (first | ((with_reducible refine gate_builtin (b := .append) (xs := #[.tmp 13, .tmp 17]) rfl ?_); at_builtin; refine Kd.R_append (Kd.int .u8) (w0 := w) w.heap.size rfl (.tmp 13) (.tmp 17) 22 5 (.int .u8 0) 1 rfl Try.underlying22 info5 rfl (by decide) (by omega) u3 x3_1 (bt a0 x4_1) [.int .u8 (bt a0 x4_1)] (fun _ => True) (fun _ => False) rfl rfl ?aP (fun _ hk => hk.elim) ?aF ?aO ?aB ?aS ?aL ?_; (case aP => exact rfl); (case aB => exact (qB HB.out)); (case aF => exact (fun _ _ => trivial)); (case aO => exact (qR HO_3.out)); (case aS => exact (below_size (qB HB.out))); (case aL => have := LMc8.out; omega); intro v164 w9 ho hb hg hat; rw [← Ny163.out] at ho; have n0_ := Aside0.mk (hb); have n1_ := Aside0.mk (ho); clear HB; clear HO_3; have HB := n0_; have HO165 := n1_; clear n0_ n1_; clear ho hb hg hat))
       go_roundg k1
       case measure => have := HK1.out; omega
       case rel => exact ⟨(y163), (wrap64 (x4_1 - 1)), qF, H', ⟨by have := HK1.out; omega⟩, ⟨qR HO165.out⟩, ⟨qB HB.out⟩⟩
      ·
       rw [if_neg c8] at H
       exact absurd H (by simp)
     ·
      rw [if_neg c6] at H
      exact absurd H (by simp)
    ·
     rw [if_neg c5] at H
     exact absurd H (by simp)
   ·
    rw [if_neg c4] at H
    have c4b0 : decide (0 ≤ x4_1) = false := decide_eq_false c4
    clear c4
    obtain rfl := Option.some.inj H
    have hcv10 := own_string (P := Try.prog) Try.underlying22 Try.underlying5 Try.underlying9 (Kd.own_of_R HO_3.out)
    go_wp2
    go_ret
    exact ⟨qE, qB HB.out⟩

end Go.Proofs.Ytoadancbpgignaa.PF

namespace Go.Proofs.Ytoadancbpgignaa.PF
open Go.RowKit Go.Proofs.YtoadancbpgignaaW.PrintWords Go.Proofs.YtoadancbpgignaaW.PrintLast Go.Proofs.YtoadancbpgignaaW.PrintMore
attribute [local go_sem] max2_int min2_int max_two min_two max_three min_three max_four min_four   -- for this text's walks alone
set_option linter.unusedVariables false
set_option linter.unusedSimpArgs false

/-! ### spec_l01Small: function 87 -/
def spec_l01Small.f (k : Nat) (s0_0 : List Int) (s0_1 : Int) (s0_2 : Int) : Option (ByteArray × Int × Int) := (spec_l01Next.f s0_0 s0_1 s0_2 11).bind fun bt166 => ((spec_l01Pick.f s0_0 bt166.2.1 bt166.2.2 (([1, 2, 2, 2, 3, 5] : List Int))).bind fun bt172 => ((spec_l01DrawOf.f k s0_0 bt172.2.1 bt172.2.2 bt166.1 bt172.1).bind fun bt175 => (some (bt175.1, bt175.2.1, bt175.2.2))))
theorem spec_l01Small.mono : ∀ a0 a1 a2 k, LeO (spec_l01Small.f k a0 a1 a2) (spec_l01Small.f (k + 1) a0 a1 a2) := by
 intro a0 a1 a2 k
 unfold spec_l01Small.f
 repeat' first
   | (with_reducible exact spec_l01DrawOf.mono _ _ _ _ _ _)
   | (with_reducible exact LeO.refl _)
   | (with_reducible exact LeO.none _)
   | (with_reducible refine LeO.ite ?_ ?_)
   | (with_reducible refine LeO.bind ?_ (fun _ => ?_))
set_option maxHeartbeats 8000000 in
set_option maxRecDepth 100000 in
theorem spec_l01Small.calls (k : Nat) (g : Nat) (s0_0 : List Int) (s0_1 : Int) (s0_2 : Int) (r1 : ByteArray) (r2 : Int) (r3 : Int) (w0 w : World) (hI : IsS73 w0 w g s0_0 s0_1 s0_2) (hB : Below w0.heap.size w0 w) (h : spec_l01Small.f k s0_0 s0_1 s0_2 = some (r1, r2, r3)) :
  Calls Try.prog 87 #[.pointer (some ⟨g, 0, none⟩)] w fun e w' => e = .returned (.string r1) ∧ IsS73 w0 w' g s0_0 r2 r3 ∧ Below w0.heap.size w0 w' ∧ KeepBut w w' g none := by
 have HI0 := Aside0.mk hI
 have HK := Aside0.mk (KeepBut.refl w g none)
 have HL := Aside0.mk hB.size
 clear hI
 have HW0 := Aside0.mk hB.size
 have HB := Aside0.mk hB
 clear hB
 have H : ((spec_l01Next.f s0_0 s0_1 s0_2 11).bind fun bt166 => ((spec_l01Pick.f s0_0 bt166.2.1 bt166.2.2 (([1, 2, 2, 2, 3, 5] : List Int))).bind fun bt172 => ((spec_l01DrawOf.f k s0_0 bt172.2.1 bt172.2.2 bt166.1 bt172.1).bind fun bt175 => (some (bt175.1, bt175.2.1, bt175.2.2))))) = some (r1, r2, r3) := h
 clear h
 replace H := Option.bind_eq_some_iff.mp H
 obtain ⟨⟨t166, t167, t168⟩, A20, H⟩ := H
 replace H : ((spec_l01Pick.f s0_0 t167 t168 (([1, 2, 2, 2, 3, 5] : List Int))).bind fun bt172 => ((spec_l01DrawOf.f k s0_0 bt172.2.1 bt172.2.2 t166 bt172.1).bind fun bt175 => (some (bt175.1, bt175.2.1, bt175.2.2)))) = some (r1, r2, r3) := H
 have A2 := Aside0.mk A20
 clear A20
 obtain ⟨y169, hy169⟩ : ∃ y_ : List Int, y_ = (([1, 2, 2, 2, 3, 5] : List Int)) := ⟨_, rfl⟩
 replace H : ((spec_l01Pick.f s0_0 t167 t168 y169).bind fun bt172 => ((spec_l01DrawOf.f k s0_0 bt172.2.1 bt172.2.2 t166 bt172.1).bind fun bt175 => (some (bt175.1, bt175.2.1, bt175.2.2)))) = some (r1, r2, r3) := by first | (rw [hy169]; with_reducible exact H) | (have H2_ := (Option.bind_some _ _).symm.trans H; rw [hy169]; with_reducible exact H2_) | (have H2_ := (Option.bind_some _ _).symm.trans H; with_reducible exact H2_) | with_reducible exact H | (rw [hy169]; exact H) | exact H
 have Ny169 := Aside0.mk hy169
 clear hy169
 replace H := Option.bind_eq_some_iff.mp H
 obtain ⟨⟨t172, t173, t174⟩, A30, H⟩ := H
 replace H : ((spec_l01DrawOf.f k s0_0 t173 t174 t166 t172).bind fun bt175 => (some (bt175.1, bt175.2.1, bt175.2.2))) = some (r1, r2, r3) := H
 have A3 := Aside0.mk A30
 clear A30
 replace H := Option.bind_eq_some_iff.mp H
 obtain ⟨⟨t175, t176, t177⟩, A40, H⟩ := H
 replace H : (some (t175, t176, t177)) = some (r1, r2, r3) := H
 have A4 := Aside0.mk A40
 clear A40
 simp only [Option.some.injEq, Prod.mk.injEq] at H
 obtain ⟨rfl, rfl, rfl⟩ := H
 go_enter Try.func87, Try.ntmps87
 go_wp2_with (first | ((with_reducible refine gate_callee (f := 42) rfl ?_); refine goesL_ (some 5) rfl rfl Try.func42 (by kernel_rfl) rfl #[.pointer (some ⟨g, 0, none⟩), .int .i64 11] rfl qV ?_; (with_reducible refine (spec_l01Next.calls g s0_0 s0_1 s0_2 11 t166 t167 t168 w0 _ ?side1 ?side2 A2.out).mono ?_); (case side1 => exact qI HI0.out); (case side2 => exact qS HB.out); rintro e w5 ⟨rfl, hi, hb, hk⟩; refine ⟨_, rfl, ?_⟩; have n0_ := Aside0.mk (KeepBut.trans (qK HK.out) hk (.inl rfl)); have n1_ := Aside0.mk (hb); have n2_ := Aside0.mk (hi); clear HK; clear HB; clear HI0; have HK := n0_; have HB := n1_; have HI0 := n2_; clear n0_ n1_ n2_) | ((with_reducible refine gate_dst (N := 7) rfl ?_); refine Kd.R_lit (Kd.int .i64) _ 2 ?hg (N := 7) ?hd (xs := ([1, 2, 2, 2, 3, 5] : List Int)) (inner := [.int .i64 1, .int .i64 2, .int .i64 2, .int .i64 2, .int .i64 3, .int .i64 5]) (ok := fun _ => True) (okp := fun _ => True) ?hr ?hp (fun _ hk => hk) trivial (Below.refl _ _) (Nat.le_refl _) (by simp) ?_; (case hd => rfl); (case hg => rfl); (case hr => first | (go_simp; done) | (go_simp; rfl)); (case hp => exact (Reps.one (show Kd.M (Kd.int .i64) _ _ _ 1 [.int .i64 1] from rfl) (Reps.one (show Kd.M (Kd.int .i64) _ _ _ 2 [.int .i64 2] from rfl) (Reps.one (show Kd.M (Kd.int .i64) _ _ _ 2 [.int .i64 2] from rfl) (Reps.one (show Kd.M (Kd.int .i64) _ _ _ 2 [.int .i64 2] from rfl) (Reps.one (show Kd.M (Kd.int .i64) _ _ _ 3 [.int .i64 3] from rfl) (Reps.one (show Kd.M (Kd.int .i64) _ _ _ 5 [.int .i64 5] from rfl) (Reps.none _ _)))))))); intro v170 w6 ho7 hb hg_ hnew_; clear hg_ hnew_; (first | rw [← Ny169.out] at ho7 | (simp only [Int.reduceToNat] at ho7; rw [← Ny169.out] at ho7)); have n0_ := Aside0.mk (Kd.R_lower ho7 (keep_size (w := w) (g := g) (row := none) (qK HK.out))); have n1_ := Aside0.mk (IsS73.below (qI HI0.out) hb); have n2_ := Aside0.mk (KeepBut.trans (qK HK.out) (KeepBut.of_below hb g none) (.inl rfl)); have n3_ := Aside0.mk (below_step (qS HB.out) hb); clear HI0; clear HK; clear HB; have HO171 := n0_; have HI0 := n1_; have HK := n2_; have HB := n3_; clear n0_ n1_ n2_ n3_; clear hb ho7; obtain ⟨Ao8, co8, eo8⟩ := Kd.R_slice HO171.out; subst eo8) | ((with_reducible refine gate_callee (f := 44) rfl ?_); refine goesL_ (some 8) rfl rfl Try.func44 (by kernel_rfl) rfl #[.pointer (some ⟨g, 0, none⟩), .slice Ao8 y169.length co8] rfl qV ?_; (with_reducible refine (spec_l01Pick.calls g s0_0 t167 t168 _ _ y169 t172 t173 t174 w0 _ ?side1 ?side2 ?side3 ?side4 ?side5 A3.out).mono ?_); (case side1 => exact qI HI0.out); (case side2 => exact qS HB.out); (case side3 => exact qC (Kd.R_reads' HO171.out).2.2); (case side4 => exact (Kd.R_reads' HO171.out).2.1); (case side5 => exact far_slice (IsS73.own_ne HI0.out HO171.out (by decide))); rintro e w9 ⟨rfl, hi, hb, hk⟩; refine ⟨_, rfl, ?_⟩; have n0_ := Aside0.mk (Kd.R_mono (Kd.R_keep (IsS73.apart (show IsS73 w0 _ g s0_0 t167 t168 from qI HI0.out) (qR HO171.out) (by decide)) hk (fun _ h => h.2)) (fun _ h => h.1)); have n1_ := Aside0.mk (KeepBut.trans (qK HK.out) hk (.inl rfl)); have n2_ := Aside0.mk (hb); have n3_ := Aside0.mk (hi); clear HO171; clear HK; clear HB; clear HI0; have HO171 := n0_; have HK := n1_; have HB := n2_; have HI0 := n3_; clear n0_ n1_ n2_ n3_) | ((with_reducible refine gate_callee (f := 41) rfl ?_); refine goesL_ (some 9) rfl rfl Try.func41 (by kernel_rfl) rfl #[.pointer (some ⟨g, 0, none⟩), .int .i64 t166, .int .i64 t172] rfl qV ?_; (with_reducible refine (spec_l01DrawOf.calls k g s0_0 t173 t174 t166 t172 t175 t176 t177 w0 _ ?side1 ?side2 A4.out).mono ?_); (case side1 => exact qI HI0.out); (case side2 => exact qS HB.out); rintro e w10 ⟨rfl, hi, hb, hk⟩; refine ⟨_, rfl, ?_⟩; have n0_ := Aside0.mk (Kd.R_mono (Kd.R_keep (IsS73.apart (show IsS73 w0 _ g s0_0 t173 t174 from qI HI0.out) (qR HO171.out) (by decide)) hk (fun _ h => h.2)) (fun _ h => h.1)); have n1_ := Aside0.mk (KeepBut.trans (qK HK.out) hk (.inl rfl)); have n2_ := Aside0.mk (hb); have n3_ := Aside0.mk (hi); clear HO171; clear HK; clear HB; clear HI0; have HO171 := n0_; have HK := n1_; have HB := n2_; have HI0 := n3_; clear n0_ n1_ n2_ n3_))
 go_ret
 exact ⟨qE, qI HI0.out, qS HB.out, qK HK.out⟩

end Go.Proofs.Ytoadancbpgignaa.PF

namespace Go.Proofs.Ytoadancbpgignaa.PF
open Go.RowKit Go.Proofs.YtoadancbpgignaaW.PrintWords Go.Proofs.YtoadancbpgignaaW.PrintLast Go.Proofs.YtoadancbpgignaaW.PrintMore
attribute [local go_sem] max2_int min2_int max_two min_two max_three min_three max_four min_four   -- for this text's walks alone
set_option linter.unusedVariables false
set_option linter.unusedSimpArgs false

/-! ### spec_l01Draw: function 80 -/
def spec_l01Draw.l0 : Nat → ByteArray → ByteArray → Int → List Int → Int → Int → Option (ByteArray × Int × Int)
 | 0, _, _, _, _, _, _ => none
 | k + 1, x6, x7, x8, x1000, x1001, x1002 => if x8 > 0 then (if x7.size + x6.size ≤ 9223372036854775807 then (spec_l01Draw.l0 k x6 (x7 ++ x6) (wrap64 (x8 - 1)) x1000 x1001 x1002) else (none)) else ((spec_l01Next.f x1000 x1001 x1002 (x6.size : Int)).bind fun bt214 => (if 0 ≤ bt214.1 then (if bt214.1 ≤ (x6.size : Int) then (if x7.size + (x6.extract 0 (bt214.1 : Int).toNat).size ≤ 9223372036854775807 then (some (x7 ++ (x6.extract 0 (bt214.1 : Int).toNat), bt214.2.1, bt214.2.2)) else (none)) else (none)) else (none)))
def spec_l01Draw.f (k : Nat) (s0_0 : List Int) (s0_1 : Int) (s0_2 : Int) : Option (ByteArray × Int × Int) := (spec_l01Next.f s0_0 s0_1 s0_2 6).bind fun bt178 => (if bt178.1 = 0 then ((spec_l01Names.f).bind fun t181 => ((spec_l01Next.f s0_0 bt178.2.1 bt178.2.2 4).bind fun bt184 => (if 0 ≤ bt184.1 then (if bt184.1 < (t181.length : Int) then ((spec_l01Pick.f s0_0 bt184.2.1 bt184.2.2 (([12, 30, 61] : List Int))).bind fun bt191 => ((spec_l01Next.f s0_0 bt191.2.1 bt191.2.2 bt191.1).bind fun bt194 => ((spec_l01Named.f k (rdOf ByteArray.empty t181 bt184.1) bt194.1).bind fun bt197 => (some (bt197.1, bt194.2.1, bt194.2.2))))) else (none)) else (none)))) else (if bt178.1 = 1 then ((spec_l01Next.f s0_0 bt178.2.1 bt178.2.2 6).bind fun bt199 => ((spec_l01Pick.f s0_0 bt199.2.1 bt199.2.2 (([2, 2, 3] : List Int))).bind fun bt205 => ((spec_l01DrawOf.f k s0_0 bt205.2.1 bt205.2.2 (wrap64 (1 + bt199.1)) bt205.1).bind fun bt208 => ((spec_l01Next.f s0_0 bt208.2.1 bt208.2.2 4).bind fun bt211 => (spec_l01Draw.l0 k bt208.1 (⟨#[]⟩ : ByteArray) (wrap64 (1 + bt211.1)) s0_0 bt211.2.1 bt211.2.2))))) else (if bt178.1 = 2 then ((spec_l01Next.f s0_0 bt178.2.1 bt178.2.2 12).bind fun bt217 => ((spec_l01Pick.f s0_0 bt217.2.1 bt217.2.2 (([2, 2, 3] : List Int))).bind fun bt223 => ((spec_l01DrawOf.f k s0_0 bt223.2.1 bt223.2.2 bt217.1 bt223.1).bind fun bt226 => ((spec_l01Next.f s0_0 bt226.2.1 bt226.2.2 2).bind fun bt229 => ((spec_l01DrawOf.f k s0_0 bt229.2.1 bt229.2.2 bt229.1 2).bind fun bt232 => (if bt226.1.size + bt232.1.size ≤ 9223372036854775807 then ((spec_l01Reversed.f k bt226.1).bind fun t235 => (if (bt226.1 ++ bt232.1).size + t235.size ≤ 9223372036854775807 then (some ((bt226.1 ++ bt232.1) ++ t235, bt232.2.1, bt232.2.2)) else (none))) else (none))))))) else (if bt178.1 = 3 then ((spec_l01Pick.f s0_0 bt178.2.1 bt178.2.2 (([20, 40, 61] : List Int))).bind fun bt239 => ((spec_l01Next.f s0_0 bt239.2.1 bt239.2.2 bt239.1).bind fun bt242 => ((spec_l01Pick.f s0_0 bt242.2.1 bt242.2.2 (([1, 2, 2, 3, 3, 4, 5] : List Int))).bind fun bt248 => ((spec_l01DrawOf.f k s0_0 bt248.2.1 bt248.2.2 bt242.1 bt248.1).bind fun bt251 => (some (bt251.1, bt251.2.1, bt251.2.2)))))) else ((spec_l01Small.f k s0_0 bt178.2.1 bt178.2.2).bind fun bt254 => (some (bt254.1, bt254.2.1, bt254.2.2)))))))
theorem spec_l01Draw.mono_l : ∀ k, (∀ y0 y1 y2 y3 y4 y5, LeO (spec_l01Draw.l0 k y0 y1 y2 y3 y4 y5) (spec_l01Draw.l0 (k + 1) y0 y1 y2 y3 y4 y5))
 | 0 => fun _ _ _ _ _ _ r h => by simp [spec_l01Draw.l0] at h
 | k + 1 => by
  have ih0 := spec_l01Draw.mono_l k
  ·
   intro y0 y1 y2 y3 y4 y5
   unfold spec_l01Draw.l0
   repeat' first
   | (with_reducible exact ih0 _ _ _ _ _ _)
   | (with_reducible exact spec_l01DrawOf.mono _ _ _ _ _ _)
   | (with_reducible exact spec_l01Named.mono _ _ _)
   | (with_reducible exact spec_l01Reversed.mono _ _)
   | (with_reducible exact spec_l01Small.mono _ _ _ _)
   | (with_reducible exact LeO.refl _)
   | (with_reducible exact LeO.none _)
   | (with_reducible refine LeO.ite ?_ ?_)
   | (with_reducible refine LeO.bind ?_ (fun _ => ?_))
theorem spec_l01Draw.mono : ∀ a0 a1 a2 k, LeO (spec_l01Draw.f k a0 a1 a2) (spec_l01Draw.f (k + 1) a0 a1 a2) := by
 intro a0 a1 a2 k
 have ih0 := spec_l01Draw.mono_l k
 unfold spec_l01Draw.f
 repeat' first
   | (with_reducible exact ih0 _ _ _ _ _ _)
   | (with_reducible exact spec_l01DrawOf.mono _ _ _ _ _ _)
   | (with_reducible exact spec_l01Named.mono _ _ _)
   | (with_reducible exact spec_l01Reversed.mono _ _)
   | (with_reducible exact spec_l01Small.mono _ _ _ _)
   | (with_reducible exact LeO.refl _)
   | (with_reducible exact LeO.none _)
   | (with_reducible refine LeO.ite ?_ ?_)
   | (with_reducible refine LeO.bind ?_ (fun _ => ?_))
def spec_l01Draw.T4 : Bool × List (List Nat × List Nat) := (true, [([], []), ([], []), ([1], [1]), ([0, 2], [0, 2]), ([3], [3]), ([], []), ([], []), ([], []), ([6, 7, 2], [6, 7]), ([5, 8, 8], [5, 8]), ([4, 9, 9], [4, 9]), ([10], [10]), ([11], [11]), ([11], [11]), ([12, 10, 0, 1, 2, 3, 4, 5, 6, 7, 8, 9, 10, 11, 12], [12]), ([13, 14, 0, 1, 2, 3, 4, 5, 6, 7, 8, 9, 10, 11, 12, 13, 14], [13])])
def spec_l01Draw.B4 : List Nat := [0, 0, 2, 7, 15, 0, 0, 0, 198, 486, 1023, 2047, 4095, 4095, 8191, 32767]
theorem spec_l01Draw.tab4 : rtab .any (opsOf Try.f80 4) = spec_l01Draw.T4 := by kernel_rfl
theorem spec_l01Draw.bits4 : waitsOk spec_l01Draw.T4.2 spec_l01Draw.B4 = true := by kernel_rfl
set_option maxHeartbeats 8000000 in
set_option maxRecDepth 100000 in
theorem spec_l01Draw.calls (k : Nat) (g : Nat) (s0_0 : List Int) (s0_1 : Int) (s0_2 : Int) (r1 : ByteArray) (r2 : Int) (r3 : Int) (w0 w : World) (hI : IsS73 w0 w g s0_0 s0_1 s0_2) (hB : Below w0.heap.size w0 w) (h : spec_l01Draw.f k s0_0 s0_1 s0_2 = some (r1, r2, r3)) :
  Calls Try.prog 80 #[.pointer (some ⟨g, 0, none⟩)] w fun e w' => e = .returned (.string r1) ∧ IsS73 w0 w' g s0_0 r2 r3 ∧ Below w0.heap.size w0 w' ∧ KeepBut w w' g none := by
 have HI0 := Aside0.mk hI
 have HK := Aside0.mk (KeepBut.refl w g none)
 have HL := Aside0.mk hB.size
 clear hI
 have HW0 := Aside0.mk hB.size
 have HB := Aside0.mk hB
 clear hB
 have H : ((spec_l01Next.f s0_0 s0_1 s0_2 6).bind fun bt178 => (if bt178.1 = 0 then ((spec_l01Names.f).bind fun t181 => ((spec_l01Next.f s0_0 bt178.2.1 bt178.2.2 4).bind fun bt184 => (if 0 ≤ bt184.1 then (if bt184.1 < (t181.length : Int) then ((spec_l01Pick.f s0_0 bt184.2.1 bt184.2.2 (([12, 30, 61] : List Int))).bind fun bt191 => ((spec_l01Next.f s0_0 bt191.2.1 bt191.2.2 bt191.1).bind fun bt194 => ((spec_l01Named.f k (rdOf ByteArray.empty t181 bt184.1) bt194.1).bind fun bt197 => (some (bt197.1, bt194.2.1, bt194.2.2))))) else (none)) else (none)))) else (if bt178.1 = 1 then ((spec_l01Next.f s0_0 bt178.2.1 bt178.2.2 6).bind fun bt199 => ((spec_l01Pick.f s0_0 bt199.2.1 bt199.2.2 (([2, 2, 3] : List Int))).bind fun bt205 => ((spec_l01DrawOf.f k s0_0 bt205.2.1 bt205.2.2 (wrap64 (1 + bt199.1)) bt205.1).bind fun bt208 => ((spec_l01Next.f s0_0 bt208.2.1 bt208.2.2 4).bind fun bt211 => (spec_l01Draw.l0 k bt208.1 (⟨#[]⟩ : ByteArray) (wrap64 (1 + bt211.1)) s0_0 bt211.2.1 bt211.2.2))))) else (if bt178.1 = 2 then ((spec_l01Next.f s0_0 bt178.2.1 bt178.2.2 12).bind fun bt217 => ((spec_l01Pick.f s0_0 bt217.2.1 bt217.2.2 (([2, 2, 3] : List Int))).bind fun bt223 => ((spec_l01DrawOf.f k s0_0 bt223.2.1 bt223.2.2 bt217.1 bt223.1).bind fun bt226 => ((spec_l01Next.f s0_0 bt226.2.1 bt226.2.2 2).bind fun bt229 => ((spec_l01DrawOf.f k s0_0 bt229.2.1 bt229.2.2 bt229.1 2).bind fun bt232 => (if bt226.1.size + bt232.1.size ≤ 9223372036854775807 then ((spec_l01Reversed.f k bt226.1).bind fun t235 => (if (bt226.1 ++ bt232.1).size + t235.size ≤ 9223372036854775807 then (some ((bt226.1 ++ bt232.1) ++ t235, bt232.2.1, bt232.2.2)) else (none))) else (none))))))) else (if bt178.1 = 3 then ((spec_l01Pick.f s0_0 bt178.2.1 bt178.2.2 (([20, 40, 61] : List Int))).bind fun bt239 => ((spec_l01Next.f s0_0 bt239.2.1 bt239.2.2 bt239.1).bind fun bt242 => ((spec_l01Pick.f s0_0 bt242.2.1 bt242.2.2 (([1, 2, 2, 3, 3, 4, 5] : List Int))).bind fun bt248 => ((spec_l01DrawOf.f k s0_0 bt248.2.1 bt248.2.2 bt242.1 bt248.1).bind fun bt251 => (some (bt251.1, bt251.2.1, bt251.2.2)))))) else ((spec_l01Small.f k s0_0 bt178.2.1 bt178.2.2).bind fun bt254 => (some (bt254.1, bt254.2.1, bt254.2.2)))))))) = some (r1, r2, r3) := h
 clear h
 replace H := Option.bind_eq_some_iff.mp H
 obtain ⟨⟨t178, t179, t180⟩, A20, H⟩ := H
 replace H : (if t178 = 0 then ((spec_l01Names.f).bind fun t181 => ((spec_l01Next.f s0_0 t179 t180 4).bind fun bt184 => (if 0 ≤ bt184.1 then (if bt184.1 < (t181.length : Int) then ((spec_l01Pick.f s0_0 bt184.2.1 bt184.2.2 (([12, 30, 61] : List Int))).bind fun bt191 => ((spec_l01Next.f s0_0 bt191.2.1 bt191.2.2 bt191.1).bind fun bt194 => ((spec_l01Named.f k (rdOf ByteArray.empty t181 bt184.1) bt194.1).bind fun bt197 => (some (bt197.1, bt194.2.1, bt194.2.2))))) else (none)) else (none)))) else (if t178 = 1 then ((spec_l01Next.f s0_0 t179 t180 6).bind fun bt199 => ((spec_l01Pick.f s0_0 bt199.2.1 bt199.2.2 (([2, 2, 3] : List Int))).bind fun bt205 => ((spec_l01DrawOf.f k s0_0 bt205.2.1 bt205.2.2 (wrap64 (1 + bt199.1)) bt205.1).bind fun bt208 => ((spec_l01Next.f s0_0 bt208.2.1 bt208.2.2 4).bind fun bt211 => (spec_l01Draw.l0 k bt208.1 (⟨#[]⟩ : ByteArray) (wrap64 (1 + bt211.1)) s0_0 bt211.2.1 bt211.2.2))))) else (if t178 = 2 then ((spec_l01Next.f s0_0 t179 t180 12).bind fun bt217 => ((spec_l01Pick.f s0_0 bt217.2.1 bt217.2.2 (([2, 2, 3] : List Int))).bind fun bt223 => ((spec_l01DrawOf.f k s0_0 bt223.2.1 bt223.2.2 bt217.1 bt223.1).bind fun bt226 => ((spec_l01Next.f s0_0 bt226.2.1 bt226.2.2 2).bind fun bt229 => ((spec_l01DrawOf.f k s0_0 bt229.2.1 bt229.2.2 bt229.1 2).bind fun bt232 => (if bt226.1.size + bt232.1.size ≤ 9223372036854775807 then ((spec_l01Reversed.f k bt226.1).bind fun t235 => (if (bt226.1 ++ bt232.1).size + t235.size ≤ 9223372036854775807 then (some ((bt226.1 ++ bt232.1) ++ t235, bt232.2.1, bt232.2.2)) else (none))) else (none))))))) else (if t178 = 3 then ((spec_l01Pick.f s0_0 t179 t180 (([20, 40, 61] : List Int))).bind fun bt239 => ((spec_l01Next.f s0_0 bt239.2.1 bt239.2.2 bt239.1).bind fun bt242 => ((spec_l01Pick.f s0_0 bt242.2.1 bt242.2.2 (([1, 2, 2, 3, 3, 4, 5] : List Int))).bind fun bt248 => ((spec_l01DrawOf.f k s0_0 bt248.2.1 bt248.2.2 bt242.1 bt248.1).bind fun bt251 => (some (bt251.1, bt251.2.1, bt251.2.2)))))) else ((spec_l01Small.f k s0_0 t179 t180).bind fun bt254 => (some (bt254.1, bt254.2.1, bt254.2.2))))))) = some (r1, r2, r3) := H
 have A2 := Aside0.mk A20
 clear A20
 by_cases c3 : t178 = 0
 ·
  rw [if_pos c3] at H
  have c3b0 : (t178 == 0) = true := beq_iff_eq.mpr c3
  have c3b1 : (t178 != 0) = false := bne_eq_false_iff_eq.mpr c3
  clear c3
  replace H := Option.bind_eq_some_iff.mp H
  obtain ⟨t181, A40, H⟩ := H
  replace H : ((spec_l01Next.f s0_0 t179 t180 4).bind fun bt184 => (if 0 ≤ bt184.1 then (if bt184.1 < (t181.length : Int) then ((spec_l01Pick.f s0_0 bt184.2.1 bt184.2.2 (([12, 30, 61] : List Int))).bind fun bt191 => ((spec_l01Next.f s0_0 bt191.2.1 bt191.2.2 bt191.1).bind fun bt194 => ((spec_l01Named.f k (rdOf ByteArray.empty t181 bt184.1) bt194.1).bind fun bt197 => (some (bt197.1, bt194.2.1, bt194.2.2))))) else (none)) else (none))) = some (r1, r2, r3) := H
  have A4 := Aside0.mk A40
  clear A40
  replace H := Option.bind_eq_some_iff.mp H
  obtain ⟨⟨t184, t185, t186⟩, A50, H⟩ := H
  replace H : (if 0 ≤ t184 then (if t184 < (t181.length : Int) then ((spec_l01Pick.f s0_0 t185 t186 (([12, 30, 61] : List Int))).bind fun bt191 => ((spec_l01Next.f s0_0 bt191.2.1 bt191.2.2 bt191.1).bind fun bt194 => ((spec_l01Named.f k (rdOf ByteArray.empty t181 t184) bt194.1).bind fun bt197 => (some (bt197.1, bt194.2.1, bt194.2.2))))) else (none)) else (none)) = some (r1, r2, r3) := H
  have A5 := Aside0.mk A50
  clear A50
  by_cases c6 : 0 ≤ t184
  ·
   rw [if_pos c6] at H
   have c6b0 : decide (0 ≤ t184) = true := decide_eq_true c6
   clear c6
   by_cases c7 : t184 < (t181.length : Int)
   ·
    rw [if_pos c7] at H
    have c7b0 : decide (t184 < (t181.length : Int)) = true := decide_eq_true c7
    clear c7
    obtain ⟨y188, hy188⟩ : ∃ y_ : List Int, y_ = (([12, 30, 61] : List Int)) := ⟨_, rfl⟩
    replace H : ((spec_l01Pick.f s0_0 t185 t186 y188).bind fun bt191 => ((spec_l01Next.f s0_0 bt191.2.1 bt191.2.2 bt191.1).bind fun bt194 => ((spec_l01Named.f k (rdOf ByteArray.empty t181 t184) bt194.1).bind fun bt197 => (some (bt197.1, bt194.2.1, bt194.2.2))))) = some (r1, r2, r3) := by first | (rw [hy188]; with_reducible exact H) | (have H2_ := (Option.bind_some _ _).symm.trans H; rw [hy188]; with_reducible exact H2_) | (have H2_ := (Option.bind_some _ _).symm.trans H; with_reducible exact H2_) | with_reducible exact H | (rw [hy188]; exact H) | exact H
    have Ny188 := Aside0.mk hy188
    clear hy188
    replace H := Option.bind_eq_some_iff.mp H
    obtain ⟨⟨t191, t192, t193⟩, A80, H⟩ := H
    replace H : ((spec_l01Next.f s0_0 t192 t193 t191).bind fun bt194 => ((spec_l01Named.f k (rdOf ByteArray.empty t181 t184) bt194.1).bind fun bt197 => (some (bt197.1, bt194.2.1, bt194.2.2)))) = some (r1, r2, r3) := H
    have A8 := Aside0.mk A80
    clear A80
    replace H := Option.bind_eq_some_iff.mp H
    obtain ⟨⟨t194, t195, t196⟩, A90, H⟩ := H
    replace H : ((spec_l01Named.f k (rdOf ByteArray.empty t181 t184) t194).bind fun bt197 => (some (bt197.1, t195, t196))) = some (r1, r2, r3) := H
    have A9 := Aside0.mk A90
    clear A90
    replace H := Option.bind_eq_some_iff.mp H
    obtain ⟨⟨t197, t198⟩, A100, H⟩ := H
    replace H : (some (t197, t195, t196)) = some (r1, r2, r3) := H
    have A10 := Aside0.mk A100
    clear A100
    simp only [Option.some.injEq, Prod.mk.injEq] at H
    obtain ⟨rfl, rfl, rfl⟩ := H
    go_enter Try.func80, Try.ntmps80
    try go_wp2_with (first | ((with_reducible refine gate_callee (f := 42) rfl ?_); refine goesL_ (some 11) rfl rfl Try.func42 (by kernel_rfl) rfl #[.pointer (some ⟨g, 0, none⟩), .int .i64 6] rfl qV ?_; (with_reducible refine (spec_l01Next.calls g s0_0 s0_1 s0_2 6 t178 t179 t180 w0 _ ?side1 ?side2 A2.out).mono ?_); (case side1 => exact qI HI0.out); (case side2 => exact qS HB.out); rintro e w11 ⟨rfl, hi, hb, hk⟩; refine ⟨_, rfl, ?_⟩; have n0_ := Aside0.mk (KeepBut.trans (qK HK.out) hk (.inl rfl)); have n1_ := Aside0.mk (hb); have n2_ := Aside0.mk (hi); clear HK; clear HB; clear HI0; have HK := n0_; have HB := n1_; have HI0 := n2_; clear n0_ n1_ n2_) | ((with_reducible refine gate_callee (f := 84) rfl ?_); refine goesL_ (some 14) rfl rfl Try.func84 (by kernel_rfl) rfl #[] rfl qV ?_; (with_reducible refine (spec_l01Names.calls  t181 _ A4.out).mono ?_); rintro e w12 ⟨v182, rfl, ho0, hb⟩; refine ⟨_, rfl, ?_⟩; have n0_ := Aside0.mk (Kd.R_lower ho0 (keep_size (w := w) (g := g) (row := none) (qK HK.out))); have n1_ := Aside0.mk (IsS73.below (qI HI0.out) hb); have n2_ := Aside0.mk (KeepBut.trans (qK HK.out) (KeepBut.of_below hb g none) (.inl rfl)); have n3_ := Aside0.mk (below_step (qS HB.out) hb); clear HI0; clear HK; clear HB; have HO183 := n0_; have HI0 := n1_; have HK := n2_; have HB := n3_; clear n0_ n1_ n2_ n3_))
    have n0_ := Aside0.mk (Kd.R_drew HO183.out)
    have n1_ := Aside0.mk (IsS73.drew HI0.out)
    have n2_ := Aside0.mk (keep_drew HK.out)
    have n3_ := Aside0.mk (below_drew1 HB.out)
    clear HO183
    clear HI0
    clear HK
    clear HB
    have HO183 := n0_
    have HI0 := n1_
    have HK := n2_
    have HB := n3_
    clear n0_ n1_ n2_ n3_
    obtain ⟨Ao_z, co22, eo22⟩ := Kd.R_slice HO183.out
    subst eo22
    have p187 : 0 ≤ (t184 : Int) := of_decide_eq_true (by first | (with_reducible assumption) | assumption)
    have q187 : t184 < (t181.length : Int) := of_decide_eq_true (by first | (with_reducible assumption) | assumption)
    obtain ⟨ad187, e187, hx187_0⟩ := Kd.at_string (Kd.R_reads' HO183.out).2.2 t184 p187 q187
    cases e187
    replace p187 := eq_true p187
    replace q187 := eq_true q187
    refine start_ (n := 16) (S := fun w' => True) (ds := []) #[false, false, false, false, false, false, false, false, false, false, false, false, false, false, false, false] (by kernel_rfl) rfl rfl trivial (fun hHeld => ?_); refine with_tabW spec_l01Draw.tab4 spec_l01Draw.bits4 (fun HT_ HW_ => ?_)
    generalize w12.drew = w13 at HO183 HI0 HK HB hx187_0 hHeld ⊢
    refine pure_ (i := 0) (N := some 16) (v := ?_) (a' := ?_) #[true, false, false, false, false, false, false, false, false, false, false, false, false, false, false, false] rfl rfl (any_of HT_.out (by kernel_rfl)) (fun _ _ _ h => h) (Or.inl ⟨by rfl, ?_⟩) ?_ ?_
    rotate_left
    ·
     intro w'
     go_simp
     with_reducible rfl
    rotate_left
    ·
     simp only [Act.put, List.setIfInBounds_toArray, List.set_cons_zero, List.set_cons_succ, i64_w, i32_w]
     rfl
    refine pure_ (i := 1) (N := some 17) (v := ?_) (a' := ?_) #[true, true, false, false, false, false, false, false, false, false, false, false, false, false, false, false] rfl rfl (any_of HT_.out (by kernel_rfl)) (fun _ _ _ h => h) (Or.inl ⟨by rfl, ?_⟩) ?_ ?_
    rotate_left
    ·
     intro w'
     go_simp
     with_reducible rfl
    rotate_left
    ·
     simp only [Act.put, List.setIfInBounds_toArray, List.set_cons_zero, List.set_cons_succ, i64_w, i32_w]
     rfl
    refine pure_ (i := 5) (N := some 21) (v := ?_) (a' := ?_) #[true, true, false, false, false, true, false, false, false, false, false, false, false, false, false, false] rfl rfl (any_of HT_.out (by kernel_rfl)) (fun _ _ _ h => h) (Or.inl ⟨by rfl, ?_⟩) ?_ ?_
    rotate_left
    ·
     intro w'
     go_simp
     with_reducible rfl
    rotate_left
    ·
     simp only [Act.put, List.setIfInBounds_toArray, List.set_cons_zero, List.set_cons_succ, i64_w, i32_w]
     rfl
    refine pure_ (i := 6) (N := some 22) (v := ?_) (a' := ?_) #[true, true, false, false, false, true, true, false, false, false, false, false, false, false, false, false] rfl rfl (any_of HT_.out (by kernel_rfl)) (fun _ _ _ h => h) (Or.inl ⟨by rfl, ?_⟩) ?_ ?_
    rotate_left
    ·
     intro w'
     go_simp
     with_reducible rfl
    rotate_left
    ·
     simp only [Act.put, List.setIfInBounds_toArray, List.set_cons_zero, List.set_cons_succ, i64_w, i32_w]
     rfl
    refine inv_at [2, 3, 4, 7, 8, 9, 10, 11, 12, 13, 14, 15] (fun a0_ b a w' => ∃ (v189 : Value), a = putSel a0_ b [(2, 18, .int .i64 t184), (3, 19, .pointer (some (ad187.add (t184).toNat))), (4, 20, .string (rdOf ByteArray.empty t181 t184)), (7, 23, v189), (8, 24, .int .i64 t191), (9, 25, .int .i64 t194), (10, 26, .tuple #[.string t197, .bool t198]), (11, 15, .tuple #[.string t197, .bool t198]), (12, 27, .string t197), (13, 28, .bool t198), (14, 4, .string t197), (15, 5, .bool t198)] ∧ (Kd.R Kd.string 9 w' w.heap.size (fun _ => True) (.slice (some ad187) t181.length co22) t181) ∧ (b 2 = false → IsS73 w0 w' g s0_0 t179 t180) ∧ (KeepBut w w' g none) ∧ (Below w0.heap.size w0 w') ∧ (b 2 = true → b 8 = false → IsS73 w0 w' g s0_0 t185 t186) ∧ (b 7 = true → Kd.R (Kd.int .i64) 2 w' w.heap.size (fun _ => True) v189 y188) ∧ (b 8 = true → b 9 = false → IsS73 w0 w' g s0_0 t192 t193) ∧ (b 9 = true → IsS73 w0 w' g s0_0 t195 t196)) HT_.out HW_.out (by kernel_rfl) (by kernel_rfl) ?_ ?_ ?_
    ·
     exact ⟨.bool false, by simp only [putSel, Bool.false_eq_true, if_false], HO183.out, fun _ => HI0.out, HK.out, HB.out, fun h_ => absurd h_ (by decide), fun h_ => absurd h_ (by decide), fun h_ => absurd h_ (by decide), fun h_ => absurd h_ (by decide)⟩
    ·
     skip
     clear HB HI0 HK HO183
     refine steps_cons ?_ ?_
     ·
      rintro b a w' ⟨v189, ha, Q_HO183, Q_HI0, Q_HK, Q_HB, Q_HI0_e2, Q_HO190, Q_HI0_e8, Q_HI0_e9⟩ hb_ hon hoff
      refine ⟨_, rfl, fun K hK => ?_⟩
      have e17 : a.tmps[17]? = some (.pointer (some ⟨g, 0, none⟩)) := by rw [ha]; exact (putSel_off rfl).trans rfl
      replace ha := Aside0.mk ha
      have HO183 := Aside0.mk Q_HO183
      have HI0 := Aside0.mk (Q_HI0 hb_)
      have HK := Aside0.mk Q_HK
      have HB := Aside0.mk Q_HB
      refine goes_ Try.func42 (by kernel_rfl) rfl #[.pointer (some ⟨g, 0, none⟩), .int .i64 4] (by rfl) rfl rfl (by first | (simp only [List.map_toArray, List.map_cons, List.map_nil, Act.eval, Array.getD_eq_getD_getElem?, Option.getD_some, e17]; done) | (simp only [List.map_toArray, List.map_cons, List.map_nil, Act.eval, Array.getD_eq_getD_getElem?, Option.getD_some, e17]; rfl)) ?_
      with_reducible refine (spec_l01Next.calls g s0_0 t179 t180 4 t184 t185 t186 w0 _ ?side1 ?side2 A5.out).mono ?_
      (case side1 => exact qI HI0.out)
      (case side2 => exact qS HB.out)
      rintro e w14 ⟨rfl, hi, hb, hk⟩
      refine ⟨_, rfl, ?_⟩
      have n0_ := Aside0.mk (Kd.R_mono (Kd.R_keep (IsS73.apart (show IsS73 w0 _ g s0_0 t179 t180 from qI HI0.out) (qR HO183.out) (by decide)) hk (fun _ h => h.2)) (fun _ h => h.1))
      have n1_ := Aside0.mk (KeepBut.trans (qK HK.out) hk (.inl rfl))
      have n2_ := Aside0.mk (hb)
      have n3_ := Aside0.mk (hi)
      have z_HO190 := fun (h0_ : b 7 = true) => (show Kd.R (Kd.int .i64) 2 w14 w.heap.size (fun _ => True) v189 y188 from by first | exact (Kd.R_mono (Kd.R_keep (IsS73.apart (show IsS73 w0 _ g s0_0 t179 t180 from qI HI0.out) (by (with_reducible repeat (first | apply Kd.R_alloc | apply Kd.R_drewN | apply Kd.R_drew)); exact (Q_HO190 h0_)) (by decide)) hk (fun _ h => h.2)) (fun _ h => h.1)) | exact Kd.R_mono (Kd.R_mono (Kd.R_keep (IsS73.apart (show IsS73 w0 _ g s0_0 t179 t180 from qI HI0.out) (by (with_reducible repeat (first | apply Kd.R_alloc | apply Kd.R_drewN | apply Kd.R_drew)); exact (Q_HO190 h0_)) (by decide)) hk (fun _ h => h.2)) (fun _ h => h.1)) (fun _ h_ => by first | trivial | exact h_ | exact h_.1))
      clear HO183
      clear HK
      clear HB
      clear HI0
      have HO183 := n0_
      have HK := n1_
      have HB := n2_
      have HI0 := n3_
      clear n0_ n1_ n2_ n3_
      (try clear hb)
      (try clear hb2)
      (try clear hk)
      (try clear hi)
      refine hK.out _ _ ⟨v189, (by rw [ha.out]; exact putSel_upk 0 hb_ rfl rfl rfl), (qR HO183.out), fun h0_ => absurd ((up_self b 2).symm.trans h0_) (by decide), (qK HK.out), (qS HB.out), fun _ _ => (qI HI0.out), z_HO190, fun h0_ _ => absurd ((hoff 8 (by kernel_rfl)).symm.trans h0_) (by decide), fun h0_ => absurd ((hoff 9 (by kernel_rfl)).symm.trans h0_) (by decide)⟩
     refine steps_cons ?_ ?_
     ·
      rintro b a w' ⟨v189, ha, Q_HO183, Q_HI0, Q_HK, Q_HB, Q_HI0_e2, Q_HO190, Q_HI0_e8, Q_HI0_e9⟩ hb_ hon hoff
      refine ⟨_, rfl, fun K hK => ?_⟩
      have e16 : a.tmps[16]? = some (.slice (some ad187) t181.length co22) := by rw [ha]; exact (putSel_off rfl).trans rfl
      have e18 : a.tmps[18]? = some (.int .i64 t184) := by rw [ha]; exact putSel_on (e := (2, 18, .int .i64 t184)) 0 rfl rfl (hon 2 (by kernel_rfl)) rfl
      replace ha := Aside0.mk ha
      have HO183 := Aside0.mk Q_HO183
      have HK := Aside0.mk Q_HK
      have HB := Aside0.mk Q_HB
      refine value_ (w1 := w') (v := .pointer (some (ad187.add (t184).toNat))) (by rfl) rfl ?_ ?_
      ·
       go_simp
       (try simp only [i64_w])
       try rfl
      refine hK.out _ _ ⟨v189, (by rw [ha.out]; exact putSel_upk 1 hb_ rfl rfl rfl), Q_HO183, fun h0_ => absurd ((hon 2 (by kernel_rfl)).symm.trans h0_) (by decide), Q_HK, Q_HB, Q_HI0_e2, Q_HO190, Q_HI0_e8, Q_HI0_e9⟩
     refine steps_cons ?_ ?_
     ·
      rintro b a w' ⟨v189, ha, Q_HO183, Q_HI0, Q_HK, Q_HB, Q_HI0_e2, Q_HO190, Q_HI0_e8, Q_HI0_e9⟩ hb_ hon hoff
      refine ⟨_, rfl, fun K hK => ?_⟩
      have e19 : a.tmps[19]? = some (.pointer (some (ad187.add (t184).toNat))) := by rw [ha]; exact putSel_on (e := (3, 19, .pointer (some (ad187.add (t184).toNat)))) 1 rfl rfl (hon 3 (by kernel_rfl)) rfl
      replace ha := Aside0.mk ha
      have HO183 := Aside0.mk Q_HO183
      have HK := Aside0.mk Q_HK
      have HB := Aside0.mk Q_HB
      obtain ⟨ad187_z, e187_z, hx187_0_z⟩ := Kd.at_string (Kd.R_reads' HO183.out).2.2 t184 (of_eq_true p187) (of_eq_true q187)
      cases e187_z
      have hs0_ : w'.cell? (ad187.add (t184).toNat) = some (.string (rdOf ByteArray.empty t181 t184)) := (by first | exact hx187_0_z | (have h_ := hx187_0_z; (try simp only [Int.reduceToNat, Nat.zero_mul, Nat.reduceMul, Nat.reduceEqDiff, Go.Addr.add, ↓reduceIte, Addr.add_zero'] at h_); exact h_))
      refine value_ (w1 := w') (v := .string (rdOf ByteArray.empty t181 t184)) (by rfl) rfl ?_ ?_
      ·
       go_simp
       (try simp only [i64_w])
       try rfl
      refine hK.out _ _ ⟨v189, (by rw [ha.out]; exact putSel_upk 2 hb_ rfl rfl rfl), Q_HO183, fun h0_ => absurd ((hon 2 (by kernel_rfl)).symm.trans h0_) (by decide), Q_HK, Q_HB, Q_HI0_e2, Q_HO190, Q_HI0_e8, Q_HI0_e9⟩
     refine steps_cons ?_ ?_
     ·
      rintro b a w' ⟨v189, ha, Q_HO183, Q_HI0, Q_HK, Q_HB, Q_HI0_e2, Q_HO190, Q_HI0_e8, Q_HI0_e9⟩ hb_ hon hoff
      refine ⟨_, rfl, fun K hK => ?_⟩
      replace ha := Aside0.mk ha
      have HO183 := Aside0.mk Q_HO183
      have HK := Aside0.mk Q_HK
      have HB := Aside0.mk Q_HB
      refine Kd.R_lit_step (Kd.int .i64) _ 2 ?hg (N := 23) ?hd (xs := ([12, 30, 61] : List Int)) (inner := [.int .i64 12, .int .i64 30, .int .i64 61]) (ok := fun _ => True) (okp := fun _ => True) ?hr ?hp (fun _ hk => hk) trivial (Below.refl _ _) (Nat.le_refl _) (by simp) ?_; (case hd => rfl); (case hg => rfl); (case hr => first | (go_simp; done) | (go_simp; rfl)); (case hp => exact (Reps.one (show Kd.M (Kd.int .i64) _ _ _ 12 [.int .i64 12] from rfl) (Reps.one (show Kd.M (Kd.int .i64) _ _ _ 30 [.int .i64 30] from rfl) (Reps.one (show Kd.M (Kd.int .i64) _ _ _ 61 [.int .i64 61] from rfl) (Reps.none _ _)))))
      intro v189 w14 ho15 hb hg_ hnew_
      clear hg_ hnew_
      (first | rw [← Ny188.out] at ho15 | (simp only [Int.reduceToNat] at ho15; rw [← Ny188.out] at ho15))
      have n0_ := Aside0.mk (Kd.R_below (qR HO183.out) hb)
      have n1_ := Aside0.mk (Kd.R_lower ho15 (keep_size (w := w) (g := g) (row := none) (qK HK.out)))
      have n3_ := Aside0.mk (KeepBut.trans (qK HK.out) (KeepBut.of_below hb g none) (.inl rfl))
      have n4_ := Aside0.mk (below_step (qB HB.out) hb)
      have z_HI0 := fun (h0_ : b 2 = false) => (show IsS73 w0 w14 g s0_0 t179 t180 from by first | exact (IsS73.below (by repeat (first | (with_reducible first | exact (Q_HI0 h0_) | apply IsS73.alloc | apply IsS73.drewN | apply IsS73.drew | apply IsS73.set_1 | apply IsS73.set_2) | exact (Q_HI0 h0_))) hb))
      have z_HI0_e2 := fun (h0_ : b 2 = true) (h1_ : b 8 = false) => (show IsS73 w0 w14 g s0_0 t185 t186 from by first | exact (IsS73.below (by repeat (first | (with_reducible first | exact (Q_HI0_e2 h0_ h1_) | apply IsS73.alloc | apply IsS73.drewN | apply IsS73.drew | apply IsS73.set_1 | apply IsS73.set_2) | exact (Q_HI0_e2 h0_ h1_))) hb))
      clear HO183
      clear HK
      clear HB
      have HO183 := n0_
      have HO190 := n1_
      have HK := n3_
      have HB := n4_
      clear n0_ n1_ n3_ n4_
      clear hb ho15
      refine hK.out _ _ ⟨v189, (by rw [ha.out]; exact putSel_upk 3 hb_ rfl rfl rfl), (qR HO183.out), z_HI0, (qK HK.out), (qB HB.out), z_HI0_e2, fun _ => (qR HO190.out), fun h0_ _ => absurd ((hoff 8 (by kernel_rfl)).symm.trans h0_) (by decide), fun h0_ => absurd ((hoff 9 (by kernel_rfl)).symm.trans h0_) (by decide)⟩
     refine steps_cons ?_ ?_
     ·
      rintro b a w' ⟨v189, ha, Q_HO183, Q_HI0, Q_HK, Q_HB, Q_HI0_e2, Q_HO190, Q_HI0_e8, Q_HI0_e9⟩ hb_ hon hoff
      refine ⟨_, rfl, fun K hK => ?_⟩
      have e22 : a.tmps[22]? = some (.pointer (some ⟨g, 0, none⟩)) := by rw [ha]; exact (putSel_off rfl).trans rfl
      have e23 : a.tmps[23]? = some (v189) := by rw [ha]; exact putSel_on (e := (7, 23, v189)) 3 rfl rfl (hon 7 (by kernel_rfl)) rfl
      replace ha := Aside0.mk ha
      have HO183 := Aside0.mk Q_HO183
      have HK := Aside0.mk Q_HK
      have HB := Aside0.mk Q_HB
      have HI0 := Aside0.mk (Q_HI0_e2 (hon 2 (by kernel_rfl)) hb_)
      have HO190 := Aside0.mk (Q_HO190 (hon 7 (by kernel_rfl)))
      obtain ⟨Ao18, co18, eo18⟩ := Kd.R_slice HO190.out
      (first | subst eo18 | (injection eo18 with f1_ f2_ f3_; have f4_ := f1_.symm; have f5_ := f3_.symm; clear f1_ f2_ f3_; subst f4_; subst f5_))
      refine goes_ Try.func44 (by kernel_rfl) rfl #[.pointer (some ⟨g, 0, none⟩), .slice Ao18 y188.length co18] (by rfl) rfl rfl (by first | (simp only [List.map_toArray, List.map_cons, List.map_nil, Act.eval, Array.getD_eq_getD_getElem?, Option.getD_some, e22, e23]; done) | (simp only [List.map_toArray, List.map_cons, List.map_nil, Act.eval, Array.getD_eq_getD_getElem?, Option.getD_some, e22, e23]; rfl)) ?_
      with_reducible refine (spec_l01Pick.calls g s0_0 t185 t186 _ _ y188 t191 t192 t193 w0 _ ?side1 ?side2 ?side3 ?side4 ?side5 A8.out).mono ?_
      (case side1 => exact qI HI0.out)
      (case side2 => exact qS HB.out)
      (case side3 => exact qC (Kd.R_reads' HO190.out).2.2)
      (case side4 => exact (Kd.R_reads' HO190.out).2.1)
      (case side5 => exact far_slice (IsS73.own_ne HI0.out HO190.out (by decide)))
      rintro e w19 ⟨rfl, hi, hb, hk⟩
      refine ⟨_, rfl, ?_⟩
      have n0_ := Aside0.mk (Kd.R_mono (Kd.R_keep (IsS73.apart (show IsS73 w0 _ g s0_0 t185 t186 from qI HI0.out) (qR HO183.out) (by decide)) hk (fun _ h => h.2)) (fun _ h => h.1))
      have n1_ := Aside0.mk (Kd.R_mono (Kd.R_keep (IsS73.apart (show IsS73 w0 _ g s0_0 t185 t186 from qI HI0.out) (qR HO190.out) (by decide)) hk (fun _ h => h.2)) (fun _ h => h.1))
      have n2_ := Aside0.mk (KeepBut.trans (qK HK.out) hk (.inl rfl))
      have n3_ := Aside0.mk (hb)
      have n4_ := Aside0.mk (hi)
      clear HO183
      clear HO190
      clear HK
      clear HB
      clear HI0
      have HO183 := n0_
      have HO190 := n1_
      have HK := n2_
      have HB := n3_
      have HI0 := n4_
      clear n0_ n1_ n2_ n3_ n4_
      (try clear hb)
      (try clear hb2)
      (try clear hk)
      (try clear hi)
      refine hK.out _ _ ⟨.slice Ao18 y188.length co18, (by rw [ha.out]; exact putSel_upk 4 hb_ rfl rfl rfl), (qR HO183.out), fun h0_ => absurd ((hon 2 (by kernel_rfl)).symm.trans h0_) (by decide), (qK HK.out), (qS HB.out), fun _ h1_ => absurd ((up_self b 8).symm.trans h1_) (by decide), fun _ => (qR HO190.out), fun _ _ => (qI HI0.out), fun h0_ => absurd ((hoff 9 (by kernel_rfl)).symm.trans h0_) (by decide)⟩
     refine steps_cons ?_ ?_
     ·
      rintro b a w' ⟨v189, ha, Q_HO183, Q_HI0, Q_HK, Q_HB, Q_HI0_e2, Q_HO190, Q_HI0_e8, Q_HI0_e9⟩ hb_ hon hoff
      refine ⟨_, rfl, fun K hK => ?_⟩
      have e21 : a.tmps[21]? = some (.pointer (some ⟨g, 0, none⟩)) := by rw [ha]; exact (putSel_off rfl).trans rfl
      have e24 : a.tmps[24]? = some (.int .i64 t191) := by rw [ha]; exact putSel_on (e := (8, 24, .int .i64 t191)) 4 rfl rfl (hon 8 (by kernel_rfl)) rfl
      replace ha := Aside0.mk ha
      have HO183 := Aside0.mk Q_HO183
      have HK := Aside0.mk Q_HK
      have HB := Aside0.mk Q_HB
      have HO190 := Aside0.mk (Q_HO190 (hon 7 (by kernel_rfl)))
      have HI0 := Aside0.mk (Q_HI0_e8 (hon 8 (by kernel_rfl)) hb_)
      refine goes_ Try.func42 (by kernel_rfl) rfl #[.pointer (some ⟨g, 0, none⟩), .int .i64 t191] (by rfl) rfl rfl (by first | (simp only [List.map_toArray, List.map_cons, List.map_nil, Act.eval, Array.getD_eq_getD_getElem?, Option.getD_some, e21, e24]; done) | (simp only [List.map_toArray, List.map_cons, List.map_nil, Act.eval, Array.getD_eq_getD_getElem?, Option.getD_some, e21, e24]; rfl)) ?_
      with_reducible refine (spec_l01Next.calls g s0_0 t192 t193 t191 t194 t195 t196 w0 _ ?side1 ?side2 A9.out).mono ?_
      (case side1 => exact qI HI0.out)
      (case side2 => exact qS HB.out)
      rintro e w20 ⟨rfl, hi, hb, hk⟩
      refine ⟨_, rfl, ?_⟩
      have n0_ := Aside0.mk (Kd.R_mono (Kd.R_keep (IsS73.apart (show IsS73 w0 _ g s0_0 t192 t193 from qI HI0.out) (qR HO183.out) (by decide)) hk (fun _ h => h.2)) (fun _ h => h.1))
      have n1_ := Aside0.mk (Kd.R_mono (Kd.R_keep (IsS73.apart (show IsS73 w0 _ g s0_0 t192 t193 from qI HI0.out) (qR HO190.out) (by decide)) hk (fun _ h => h.2)) (fun _ h => h.1))
      have n2_ := Aside0.mk (KeepBut.trans (qK HK.out) hk (.inl rfl))
      have n3_ := Aside0.mk (hb)
      have n4_ := Aside0.mk (hi)
      clear HO183
      clear HO190
      clear HK
      clear HB
      clear HI0
      have HO183 := n0_
      have HO190 := n1_
      have HK := n2_
      have HB := n3_
      have HI0 := n4_
      clear n0_ n1_ n2_ n3_ n4_
      (try clear hb)
      (try clear hb2)
      (try clear hk)
      (try clear hi)
      refine hK.out _ _ ⟨v189, (by rw [ha.out]; exact putSel_upk 5 hb_ rfl rfl rfl), (qR HO183.out), fun h0_ => absurd ((hon 2 (by kernel_rfl)).symm.trans h0_) (by decide), (qK HK.out), (qS HB.out), fun _ h1_ => absurd ((hon 8 (by kernel_rfl)).symm.trans h1_) (by decide), fun _ => (qR HO190.out), fun _ h1_ => absurd ((up_self b 9).symm.trans h1_) (by decide), fun _ => (qI HI0.out)⟩
     refine steps_cons ?_ ?_
     ·
      rintro b a w' ⟨v189, ha, Q_HO183, Q_HI0, Q_HK, Q_HB, Q_HI0_e2, Q_HO190, Q_HI0_e8, Q_HI0_e9⟩ hb_ hon hoff
      refine ⟨_, rfl, fun K hK => ?_⟩
      have e20 : a.tmps[20]? = some (.string (rdOf ByteArray.empty t181 t184)) := by rw [ha]; exact putSel_on (e := (4, 20, .string (rdOf ByteArray.empty t181 t184))) 2 rfl rfl (hon 4 (by kernel_rfl)) rfl
      have e25 : a.tmps[25]? = some (.int .i64 t194) := by rw [ha]; exact putSel_on (e := (9, 25, .int .i64 t194)) 5 rfl rfl (hon 9 (by kernel_rfl)) rfl
      replace ha := Aside0.mk ha
      have HO183 := Aside0.mk Q_HO183
      have HK := Aside0.mk Q_HK
      have HB := Aside0.mk Q_HB
      have HO190 := Aside0.mk (Q_HO190 (hon 7 (by kernel_rfl)))
      have HI0 := Aside0.mk (Q_HI0_e9 (hon 9 (by kernel_rfl)))
      refine goes_ Try.func85 (by kernel_rfl) rfl #[.string (rdOf ByteArray.empty t181 t184), .int .i64 t194] (by rfl) rfl rfl (by first | (simp only [List.map_toArray, List.map_cons, List.map_nil, Act.eval, Array.getD_eq_getD_getElem?, Option.getD_some, e20, e25]; done) | (simp only [List.map_toArray, List.map_cons, List.map_nil, Act.eval, Array.getD_eq_getD_getElem?, Option.getD_some, e20, e25]; rfl)) ?_
      with_reducible refine (spec_l01Named.calls k (rdOf ByteArray.empty t181 t184) t194 t197 t198 _ A10.out).mono ?_
      rintro e w21 ⟨rfl, hb⟩
      refine ⟨_, rfl, ?_⟩
      have n0_ := Aside0.mk (Kd.R_below (qR HO183.out) hb)
      have n1_ := Aside0.mk (Kd.R_below (qR HO190.out) hb)
      have n2_ := Aside0.mk (IsS73.below (qI HI0.out) hb)
      have n3_ := Aside0.mk (KeepBut.trans (qK HK.out) (KeepBut.of_below hb g none) (.inl rfl))
      have n4_ := Aside0.mk (below_step (qS HB.out) hb)
      clear HO183
      clear HO190
      clear HI0
      clear HK
      clear HB
      have HO183 := n0_
      have HO190 := n1_
      have HI0 := n2_
      have HK := n3_
      have HB := n4_
      clear n0_ n1_ n2_ n3_ n4_
      (try clear hb)
      (try clear hb2)
      (try clear hk)
      (try clear hi)
      refine hK.out _ _ ⟨v189, (by rw [ha.out]; exact putSel_upk 6 hb_ rfl rfl rfl), (qR HO183.out), fun h0_ => absurd ((hon 2 (by kernel_rfl)).symm.trans h0_) (by decide), (qK HK.out), (qS HB.out), fun _ h1_ => absurd ((hon 8 (by kernel_rfl)).symm.trans h1_) (by decide), fun _ => (qR HO190.out), fun _ h1_ => absurd ((hon 9 (by kernel_rfl)).symm.trans h1_) (by decide), fun _ => (qI HI0.out)⟩
     refine steps_cons ?_ ?_
     ·
      rintro b a w' ⟨v189, ha, Q_HO183, Q_HI0, Q_HK, Q_HB, Q_HI0_e2, Q_HO190, Q_HI0_e8, Q_HI0_e9⟩ hb_ hon hoff
      refine ⟨_, rfl, fun K hK => ?_⟩
      have e26 : a.tmps[26]? = some (.tuple #[.string t197, .bool t198]) := by rw [ha]; exact putSel_on (e := (10, 26, .tuple #[.string t197, .bool t198])) 6 rfl rfl (hon 10 (by kernel_rfl)) rfl
      replace ha := Aside0.mk ha
      have HO183 := Aside0.mk Q_HO183
      have HK := Aside0.mk Q_HK
      have HB := Aside0.mk Q_HB
      have HO190 := Aside0.mk (Q_HO190 (hon 7 (by kernel_rfl)))
      have HI0 := Aside0.mk (Q_HI0_e9 (hon 9 (by kernel_rfl)))
      refine value_ (w1 := w') (v := .tuple #[.string t197, .bool t198]) (by rfl) rfl ?_ ?_
      ·
       go_simp
       (try simp only [i64_w])
       try rfl
      refine hK.out _ _ ⟨v189, (by rw [ha.out]; exact putSel_upk 7 hb_ rfl rfl rfl), Q_HO183, fun h0_ => absurd ((hon 2 (by kernel_rfl)).symm.trans h0_) (by decide), Q_HK, Q_HB, fun _ h1_ => absurd ((hon 8 (by kernel_rfl)).symm.trans h1_) (by decide), Q_HO190, fun _ h1_ => absurd ((hon 9 (by kernel_rfl)).symm.trans h1_) (by decide), Q_HI0_e9⟩
     refine steps_cons ?_ ?_
     ·
      rintro b a w' ⟨v189, ha, Q_HO183, Q_HI0, Q_HK, Q_HB, Q_HI0_e2, Q_HO190, Q_HI0_e8, Q_HI0_e9⟩ hb_ hon hoff
      refine ⟨_, rfl, fun K hK => ?_⟩
      have e15 : a.tmps[15]? = some (.tuple #[.string t197, .bool t198]) := by rw [ha]; exact putSel_on (e := (11, 15, .tuple #[.string t197, .bool t198])) 7 rfl rfl (hon 11 (by kernel_rfl)) rfl
      replace ha := Aside0.mk ha
      have HO183 := Aside0.mk Q_HO183
      have HK := Aside0.mk Q_HK
      have HB := Aside0.mk Q_HB
      have HO190 := Aside0.mk (Q_HO190 (hon 7 (by kernel_rfl)))
      have HI0 := Aside0.mk (Q_HI0_e9 (hon 9 (by kernel_rfl)))
      refine value_ (w1 := w') (v := .string t197) (by rfl) rfl ?_ ?_
      ·
       go_simp
       (try simp only [i64_w])
       try rfl
      refine hK.out _ _ ⟨v189, (by rw [ha.out]; exact putSel_upk 8 hb_ rfl rfl rfl), Q_HO183, fun h0_ => absurd ((hon 2 (by kernel_rfl)).symm.trans h0_) (by decide), Q_HK, Q_HB, fun _ h1_ => absurd ((hon 8 (by kernel_rfl)).symm.trans h1_) (by decide), Q_HO190, fun _ h1_ => absurd ((hon 9 (by kernel_rfl)).symm.trans h1_) (by decide), Q_HI0_e9⟩
     refine steps_cons ?_ ?_
     ·
      rintro b a w' ⟨v189, ha, Q_HO183, Q_HI0, Q_HK, Q_HB, Q_HI0_e2, Q_HO190, Q_HI0_e8, Q_HI0_e9⟩ hb_ hon hoff
      refine ⟨_, rfl, fun K hK => ?_⟩
      have e15 : a.tmps[15]? = some (.tuple #[.string t197, .bool t198]) := by rw [ha]; exact putSel_on (e := (11, 15, .tuple #[.string t197, .bool t198])) 7 rfl rfl (hon 11 (by kernel_rfl)) rfl
      replace ha := Aside0.mk ha
      have HO183 := Aside0.mk Q_HO183
      have HK := Aside0.mk Q_HK
      have HB := Aside0.mk Q_HB
      have HO190 := Aside0.mk (Q_HO190 (hon 7 (by kernel_rfl)))
      have HI0 := Aside0.mk (Q_HI0_e9 (hon 9 (by kernel_rfl)))
      refine value_ (w1 := w') (v := .bool t198) (by rfl) rfl ?_ ?_
      ·
       go_simp
       (try simp only [i64_w])
       try rfl
      refine hK.out _ _ ⟨v189, (by rw [ha.out]; exact putSel_upk 9 hb_ rfl rfl rfl), Q_HO183, fun h0_ => absurd ((hon 2 (by kernel_rfl)).symm.trans h0_) (by decide), Q_HK, Q_HB, fun _ h1_ => absurd ((hon 8 (by kernel_rfl)).symm.trans h1_) (by decide), Q_HO190, fun _ h1_ => absurd ((hon 9 (by kernel_rfl)).symm.trans h1_) (by decide), Q_HI0_e9⟩
     refine steps_cons ?_ ?_
     ·
      rintro b a w' ⟨v189, ha, Q_HO183, Q_HI0, Q_HK, Q_HB, Q_HI0_e2, Q_HO190, Q_HI0_e8, Q_HI0_e9⟩ hb_ hon hoff
      refine ⟨_, rfl, fun K hK => ?_⟩
      have e27 : a.tmps[27]? = some (.string t197) := by rw [ha]; exact putSel_on (e := (12, 27, .string t197)) 8 rfl rfl (hon 12 (by kernel_rfl)) rfl
      replace ha := Aside0.mk ha
      have HO183 := Aside0.mk Q_HO183
      have HK := Aside0.mk Q_HK
      have HB := Aside0.mk Q_HB
      have HO190 := Aside0.mk (Q_HO190 (hon 7 (by kernel_rfl)))
      have HI0 := Aside0.mk (Q_HI0_e9 (hon 9 (by kernel_rfl)))
      refine value_ (w1 := w') (v := .string t197) (by rfl) rfl ?_ ?_
      ·
       go_simp
       (try simp only [i64_w])
       try rfl
      refine hK.out _ _ ⟨v189, (by rw [ha.out]; exact putSel_upk 10 hb_ rfl rfl rfl), Q_HO183, fun h0_ => absurd ((hon 2 (by kernel_rfl)).symm.trans h0_) (by decide), Q_HK, Q_HB, fun _ h1_ => absurd ((hon 8 (by kernel_rfl)).symm.trans h1_) (by decide), Q_HO190, fun _ h1_ => absurd ((hon 9 (by kernel_rfl)).symm.trans h1_) (by decide), Q_HI0_e9⟩
     refine steps_cons ?_ ?_
     ·
      rintro b a w' ⟨v189, ha, Q_HO183, Q_HI0, Q_HK, Q_HB, Q_HI0_e2, Q_HO190, Q_HI0_e8, Q_HI0_e9⟩ hb_ hon hoff
      refine ⟨_, rfl, fun K hK => ?_⟩
      have e28 : a.tmps[28]? = some (.bool t198) := by rw [ha]; exact putSel_on (e := (13, 28, .bool t198)) 9 rfl rfl (hon 13 (by kernel_rfl)) rfl
      replace ha := Aside0.mk ha
      have HO183 := Aside0.mk Q_HO183
      have HK := Aside0.mk Q_HK
      have HB := Aside0.mk Q_HB
      have HO190 := Aside0.mk (Q_HO190 (hon 7 (by kernel_rfl)))
      have HI0 := Aside0.mk (Q_HI0_e9 (hon 9 (by kernel_rfl)))
      refine value_ (w1 := w') (v := .bool t198) (by rfl) rfl ?_ ?_
      ·
       go_simp
       (try simp only [i64_w])
       try rfl
      refine hK.out _ _ ⟨v189, (by rw [ha.out]; exact putSel_upk 11 hb_ rfl rfl rfl), Q_HO183, fun h0_ => absurd ((hon 2 (by kernel_rfl)).symm.trans h0_) (by decide), Q_HK, Q_HB, fun _ h1_ => absurd ((hon 8 (by kernel_rfl)).symm.trans h1_) (by decide), Q_HO190, fun _ h1_ => absurd ((hon 9 (by kernel_rfl)).symm.trans h1_) (by decide), Q_HI0_e9⟩
     exact steps_nil
    rintro b a w21 hall ⟨v189, ha, Q_HO183, Q_HI0, Q_HK, Q_HB, Q_HI0_e2, Q_HO190, Q_HI0_e8, Q_HI0_e9⟩
    clear HB HI0 HK HO183
    have hb2_ := hall 2 (by kernel_rfl)
    have hb3_ := hall 3 (by kernel_rfl)
    have hb4_ := hall 4 (by kernel_rfl)
    have hb7_ := hall 7 (by kernel_rfl)
    have hb8_ := hall 8 (by kernel_rfl)
    have hb9_ := hall 9 (by kernel_rfl)
    have hb10_ := hall 10 (by kernel_rfl)
    have hb11_ := hall 11 (by kernel_rfl)
    have hb12_ := hall 12 (by kernel_rfl)
    have hb13_ := hall 13 (by kernel_rfl)
    have hb14_ := hall 14 (by kernel_rfl)
    have hb15_ := hall 15 (by kernel_rfl)
    subst ha
    simp only [putSel, hb2_, hb3_, hb4_, hb7_, hb8_, hb9_, hb10_, hb11_, hb12_, hb13_, hb14_, hb15_, if_true, Act.put, List.setIfInBounds_toArray, List.set_cons_zero, List.set_cons_succ]
    have HO183 := Aside0.mk Q_HO183
    clear Q_HO183
    clear Q_HI0
    have HK := Aside0.mk Q_HK
    clear Q_HK
    have HB := Aside0.mk Q_HB
    clear Q_HB
    clear Q_HI0_e2
    have HO190 := Aside0.mk (Q_HO190 hb7_)
    clear Q_HO190
    clear Q_HI0_e8
    have HI0 := Aside0.mk (Q_HI0_e9 hb9_)
    clear Q_HI0_e9
    clear hall hb2_ hb3_ hb4_ hb7_ hb8_ hb9_ hb10_ hb11_ hb12_ hb13_ hb14_ hb15_
    try go_wp2
    go_ret
    exact ⟨qE, qI HI0.out, qS HB.out, qK HK.out⟩
   ·
    rw [if_neg c7] at H
    exact absurd H (by simp)
  ·
   rw [if_neg c6] at H
   exact absurd H (by simp)
 ·
  rw [if_neg c3] at H
  have c3b0 : (t178 == 0) = false := beq_eq_false_iff_ne.mpr c3
  have c3b1 : (t178 != 0) = true := bne_iff_ne.mpr c3
  by_cases c23 : t178 = 1
  ·
   rw [if_pos c23] at H
   have c23b0 : (t178 == 1) = true := beq_iff_eq.mpr c23
   have c23b1 : (t178 != 1) = false := bne_eq_false_iff_eq.mpr c23
   clear c23
   replace H := Option.bind_eq_some_iff.mp H
   obtain ⟨⟨t199, t200, t201⟩, A240, H⟩ := H
   replace H : ((spec_l01Pick.f s0_0 t200 t201 (([2, 2, 3] : List Int))).bind fun bt205 => ((spec_l01DrawOf.f k s0_0 bt205.2.1 bt205.2.2 (wrap64 (1 + t199)) bt205.1).bind fun bt208 => ((spec_l01Next.f s0_0 bt208.2.1 bt208.2.2 4).bind fun bt211 => (spec_l01Draw.l0 k bt208.1 (⟨#[]⟩ : ByteArray) (wrap64 (1 + bt211.1)) s0_0 bt211.2.1 bt211.2.2)))) = some (r1, r2, r3) := H
   have A24 := Aside0.mk A240
   clear A240
   obtain ⟨y202, hy202⟩ : ∃ y_ : List Int, y_ = (([2, 2, 3] : List Int)) := ⟨_, rfl⟩
   replace H : ((spec_l01Pick.f s0_0 t200 t201 y202).bind fun bt205 => ((spec_l01DrawOf.f k s0_0 bt205.2.1 bt205.2.2 (wrap64 (1 + t199)) bt205.1).bind fun bt208 => ((spec_l01Next.f s0_0 bt208.2.1 bt208.2.2 4).bind fun bt211 => (spec_l01Draw.l0 k bt208.1 (⟨#[]⟩ : ByteArray) (wrap64 (1 + bt211.1)) s0_0 bt211.2.1 bt211.2.2)))) = some (r1, r2, r3) := by first | (rw [hy202]; with_reducible exact H) | (have H2_ := (Option.bind_some _ _).symm.trans H; rw [hy202]; with_reducible exact H2_) | (have H2_ := (Option.bind_some _ _).symm.trans H; with_reducible exact H2_) | with_reducible exact H | (rw [hy202]; exact H) | exact H
   have Ny202 := Aside0.mk hy202
   clear hy202
   replace H := Option.bind_eq_some_iff.mp H
   obtain ⟨⟨t205, t206, t207⟩, A250, H⟩ := H
   replace H : ((spec_l01DrawOf.f k s0_0 t206 t207 (wrap64 (1 + t199)) t205).bind fun bt208 => ((spec_l01Next.f s0_0 bt208.2.1 bt208.2.2 4).bind fun bt211 => (spec_l01Draw.l0 k bt208.1 (⟨#[]⟩ : ByteArray) (wrap64 (1 + bt211.1)) s0_0 bt211.2.1 bt211.2.2))) = some (r1, r2, r3) := H
   have A25 := Aside0.mk A250
   clear A250
   replace H := Option.bind_eq_some_iff.mp H
   obtain ⟨⟨t208, t209, t210⟩, A260, H⟩ := H
   replace H : ((spec_l01Next.f s0_0 t209 t210 4).bind fun bt211 => (spec_l01Draw.l0 k t208 (⟨#[]⟩ : ByteArray) (wrap64 (1 + bt211.1)) s0_0 bt211.2.1 bt211.2.2)) = some (r1, r2, r3) := H
   have A26 := Aside0.mk A260
   clear A260
   replace H := Option.bind_eq_some_iff.mp H
   obtain ⟨⟨t211, t212, t213⟩, A270, H⟩ := H
   replace H : (spec_l01Draw.l0 k t208 (⟨#[]⟩ : ByteArray) (wrap64 (1 + t211)) s0_0 t212 t213) = some (r1, r2, r3) := H
   have A27 := Aside0.mk A270
   clear A270
   have H' := Aside0.mk H
   clear H
   go_enter Try.func80, Try.ntmps80
   go_wp2_with (first | ((with_reducible refine gate_callee (f := 42) rfl ?_); refine goesL_ (some 11) rfl rfl Try.func42 (by kernel_rfl) rfl #[.pointer (some ⟨g, 0, none⟩), .int .i64 6] rfl qV ?_; (with_reducible refine (spec_l01Next.calls g s0_0 s0_1 s0_2 6 t178 t179 t180 w0 _ ?side1 ?side2 A2.out).mono ?_); (case side1 => exact qI HI0.out); (case side2 => exact qS HB.out); rintro e w28 ⟨rfl, hi, hb, hk⟩; refine ⟨_, rfl, ?_⟩; have n0_ := Aside0.mk (KeepBut.trans (qK HK.out) hk (.inl rfl)); have n1_ := Aside0.mk (hb); have n2_ := Aside0.mk (hi); clear HK; clear HB; clear HI0; have HK := n0_; have HB := n1_; have HI0 := n2_; clear n0_ n1_ n2_) | ((with_reducible refine gate_callee (f := 42) rfl ?_); refine goesL_ (some 34) rfl rfl Try.func42 (by kernel_rfl) rfl #[.pointer (some ⟨g, 0, none⟩), .int .i64 6] rfl qV ?_; (with_reducible refine (spec_l01Next.calls g s0_0 t179 t180 6 t199 t200 t201 w0 _ ?side1 ?side2 A24.out).mono ?_); (case side1 => exact qI HI0.out); (case side2 => exact qS HB.out); rintro e w29 ⟨rfl, hi, hb, hk⟩; refine ⟨_, rfl, ?_⟩; have n0_ := Aside0.mk (KeepBut.trans (qK HK.out) hk (.inl rfl)); have n1_ := Aside0.mk (hb); have n2_ := Aside0.mk (hi); clear HK; clear HB; clear HI0; have HK := n0_; have HB := n1_; have HI0 := n2_; clear n0_ n1_ n2_) | ((with_reducible refine gate_dst (N := 37) rfl ?_); refine Kd.R_lit (Kd.int .i64) _ 2 ?hg (N := 37) ?hd (xs := ([2, 2, 3] : List Int)) (inner := [.int .i64 2, .int .i64 2, .int .i64 3]) (ok := fun _ => True) (okp := fun _ => True) ?hr ?hp (fun _ hk => hk) trivial (Below.refl _ _) (Nat.le_refl _) (by simp) ?_; (case hd => rfl); (case hg => rfl); (case hr => first | (go_simp; done) | (go_simp; rfl)); (case hp => exact (Reps.one (show Kd.M (Kd.int .i64) _ _ _ 2 [.int .i64 2] from rfl) (Reps.one (show Kd.M (Kd.int .i64) _ _ _ 2 [.int .i64 2] from rfl) (Reps.one (show Kd.M (Kd.int .i64) _ _ _ 3 [.int .i64 3] from rfl) (Reps.none _ _))))); intro v203 w30 ho31 hb hg_ hnew_; clear hg_ hnew_; (first | rw [← Ny202.out] at ho31 | (simp only [Int.reduceToNat] at ho31; rw [← Ny202.out] at ho31)); have n0_ := Aside0.mk (Kd.R_lower ho31 (keep_size (w := w) (g := g) (row := none) (qK HK.out))); have n1_ := Aside0.mk (IsS73.below (qI HI0.out) hb); have n2_ := Aside0.mk (KeepBut.trans (qK HK.out) (KeepBut.of_below hb g none) (.inl rfl)); have n3_ := Aside0.mk (below_step (qS HB.out) hb); clear HI0; clear HK; clear HB; have HO204 := n0_; have HI0 := n1_; have HK := n2_; have HB := n3_; clear n0_ n1_ n2_ n3_; clear hb ho31; obtain ⟨Ao32, co32, eo32⟩ := Kd.R_slice HO204.out; subst eo32) | ((with_reducible refine gate_callee (f := 44) rfl ?_); refine goesL_ (some 38) rfl rfl Try.func44 (by kernel_rfl) rfl #[.pointer (some ⟨g, 0, none⟩), .slice Ao32 y202.length co32] rfl qV ?_; (with_reducible refine (spec_l01Pick.calls g s0_0 t200 t201 _ _ y202 t205 t206 t207 w0 _ ?side1 ?side2 ?side3 ?side4 ?side5 A25.out).mono ?_); (case side1 => exact qI HI0.out); (case side2 => exact qS HB.out); (case side3 => exact qC (Kd.R_reads' HO204.out).2.2); (case side4 => exact (Kd.R_reads' HO204.out).2.1); (case side5 => exact far_slice (IsS73.own_ne HI0.out HO204.out (by decide))); rintro e w33 ⟨rfl, hi, hb, hk⟩; refine ⟨_, rfl, ?_⟩; have n0_ := Aside0.mk (Kd.R_mono (Kd.R_keep (IsS73.apart (show IsS73 w0 _ g s0_0 t200 t201 from qI HI0.out) (qR HO204.out) (by decide)) hk (fun _ h => h.2)) (fun _ h => h.1)); have n1_ := Aside0.mk (KeepBut.trans (qK HK.out) hk (.inl rfl)); have n2_ := Aside0.mk (hb); have n3_ := Aside0.mk (hi); clear HO204; clear HK; clear HB; clear HI0; have HO204 := n0_; have HK := n1_; have HB := n2_; have HI0 := n3_; clear n0_ n1_ n2_ n3_) | ((with_reducible refine gate_callee (f := 41) rfl ?_); refine goesL_ (some 39) rfl rfl Try.func41 (by kernel_rfl) rfl #[.pointer (some ⟨g, 0, none⟩), .int .i64 (wrap64 (1 + t199)), .int .i64 t205] rfl qV ?_; (with_reducible refine (spec_l01DrawOf.calls k g s0_0 t206 t207 (wrap64 (1 + t199)) t205 t208 t209 t210 w0 _ ?side1 ?side2 A26.out).mono ?_); (case side1 => exact qI HI0.out); (case side2 => exact qS HB.out); rintro e w34 ⟨rfl, hi, hb, hk⟩; refine ⟨_, rfl, ?_⟩; have n0_ := Aside0.mk (Kd.R_mono (Kd.R_keep (IsS73.apart (show IsS73 w0 _ g s0_0 t206 t207 from qI HI0.out) (qR HO204.out) (by decide)) hk (fun _ h => h.2)) (fun _ h => h.1)); have n1_ := Aside0.mk (KeepBut.trans (qK HK.out) hk (.inl rfl)); have n2_ := Aside0.mk (hb); have n3_ := Aside0.mk (hi); clear HO204; clear HK; clear HB; clear HI0; have HO204 := n0_; have HK := n1_; have HB := n2_; have HI0 := n3_; clear n0_ n1_ n2_ n3_) | ((with_reducible refine gate_callee (f := 42) rfl ?_); refine goesL_ (some 41) rfl rfl Try.func42 (by kernel_rfl) rfl #[.pointer (some ⟨g, 0, none⟩), .int .i64 4] rfl qV ?_; (with_reducible refine (spec_l01Next.calls g s0_0 t209 t210 4 t211 t212 t213 w0 _ ?side1 ?side2 A27.out).mono ?_); (case side1 => exact qI HI0.out); (case side2 => exact qS HB.out); rintro e w35 ⟨rfl, hi, hb, hk⟩; refine ⟨_, rfl, ?_⟩; have n0_ := Aside0.mk (Kd.R_mono (Kd.R_keep (IsS73.apart (show IsS73 w0 _ g s0_0 t209 t210 from qI HI0.out) (qR HO204.out) (by decide)) hk (fun _ h => h.2)) (fun _ h => h.1)); have n1_ := Aside0.mk (KeepBut.trans (qK HK.out) hk (.inl rfl)); have n2_ := Aside0.mk (hb); have n3_ := Aside0.mk (hi); clear HO204; clear HK; clear HB; clear HI0; have HO204 := n0_; have HK := n1_; have HB := n2_; have HI0 := n3_; clear n0_ n1_ n2_ n3_))
   go_loopg [7, 8] k (fun kq v7 v8 w' => ∃ (x7_1 : ByteArray) (x8_1 : Int), v7 = .string x7_1 ∧ v8 = .int .i64 x8_1 ∧ Aside0 (spec_l01Draw.l0 kq t208 x7_1 x8_1 s0_0 t212 t213 = some (r1, r2, r3)) ∧ Aside0 (kq ≤ k) ∧ Aside0 (IsS73 w0 w' g s0_0 t212 t213) ∧ Aside0 (KeepBut w w' g none) ∧ Aside0 (Below w0.heap.size w0 w'))
   case atStart => exact ⟨((⟨#[]⟩ : ByteArray)), (wrap64 (1 + t211)), qF, qF, H', ⟨Nat.le_refl _⟩, ⟨qI HI0.out⟩, ⟨qK HK.out⟩, ⟨qS HB.out⟩⟩
   case round =>
    clear H'
    obtain ⟨x7_1, x8_1, rfl, rfl, HA, HK1, HI0, HK, HB⟩ := hrel
    cases gk with
    | zero => exact absurd HA.out (by simp [spec_l01Draw.l0])
    | succ k1 =>
     have H := HA.out
     clear HA
     simp only [spec_l01Draw.l0] at H
     by_cases c36 : x8_1 > 0
     ·
      rw [if_pos c36] at H
      have c36b0 : decide (0 < x8_1) = true := decide_eq_true c36
      clear c36
      by_cases c37 : x7_1.size + t208.size ≤ 9223372036854775807
      ·
       rw [if_pos c37] at H
       have c37b0 := eq_true c37
       have c37b1 : decide (x7_1.size + t208.size ≤ 9223372036854775807) = true := decide_eq_true c37
       try have c37b2 : (9223372036854775807 < x7_1.size + t208.size) = False := eq_false (Nat.not_lt.2 c37)
       have H' := Aside0.mk H
       clear H
       go_wp2
       go_roundg k1
       case measure => have := HK1.out; omega
       case rel => exact ⟨(x7_1 ++ t208), (wrap64 (x8_1 - 1)), qF, qF, H', ⟨by have := HK1.out; omega⟩, ⟨qI HI0.out⟩, ⟨qK HK.out⟩, ⟨qS HB.out⟩⟩
      ·
       rw [if_neg c37] at H
       exact absurd H (by simp)
     ·
      rw [if_neg c36] at H
      have c36b0 : decide (0 < x8_1) = false := decide_eq_false c36
      clear c36
      replace H := Option.bind_eq_some_iff.mp H
      obtain ⟨⟨t214, t215, t216⟩, A380, H⟩ := H
      replace H : (if 0 ≤ t214 then (if t214 ≤ (t208.size : Int) then (if x7_1.size + (t208.extract 0 (t214 : Int).toNat).size ≤ 9223372036854775807 then (some (x7_1 ++ (t208.extract 0 (t214 : Int).toNat), t215, t216)) else (none)) else (none)) else (none)) = some (r1, r2, r3) := H
      have A38 := Aside0.mk A380
      clear A380
      by_cases c39 : 0 ≤ t214
      ·
       rw [if_pos c39] at H
       have c39b0 := eq_true c39
       have c39b1 : decide (0 ≤ t214) = true := decide_eq_true c39
       clear c39
       by_cases c40 : t214 ≤ (t208.size : Int)
       ·
        rw [if_pos c40] at H
        have c40b0 := eq_true c40
        have c40b1 : decide (t214 ≤ (t208.size : Int)) = true := decide_eq_true c40
        clear c40
        by_cases c41 : x7_1.size + (t208.extract 0 (t214 : Int).toNat).size ≤ 9223372036854775807
        ·
         rw [if_pos c41] at H
         have c41b0 := eq_true c41
         have c41b1 : decide (x7_1.size + (t208.extract 0 (t214 : Int).toNat).size ≤ 9223372036854775807) = true := decide_eq_true c41
         try have c41b2 : (9223372036854775807 < x7_1.size + (t208.extract 0 (t214 : Int).toNat).size) = False := eq_false (Nat.not_lt.2 c41)
         simp only [Option.some.injEq, Prod.mk.injEq] at H
         obtain ⟨rfl, rfl, rfl⟩ := H
         go_wp2_with (first | ((with_reducible refine gate_callee (f := 42) rfl ?_); refine goesL_ (some 55) rfl rfl Try.func42 (by kernel_rfl) rfl #[.pointer (some ⟨g, 0, none⟩), .int .i64 (t208.size : Int)] rfl qV ?_; (with_reducible refine (spec_l01Next.calls g s0_0 t212 t213 (t208.size : Int) t214 t215 t216 w0 _ ?side1 ?side2 A38.out).mono ?_); (case side1 => exact qI HI0.out); (case side2 => exact qS HB.out); rintro e w42 ⟨rfl, hi, hb, hk⟩; refine ⟨_, rfl, ?_⟩; have n0_ := Aside0.mk (KeepBut.trans (qK HK.out) hk (.inl rfl)); have n1_ := Aside0.mk (hb); have n2_ := Aside0.mk (hi); clear HK; clear HB; clear HI0; have HK := n0_; have HB := n1_; have HI0 := n2_; clear n0_ n1_ n2_))
         go_ret
         exact ⟨qE, qI HI0.out, qS HB.out, qK HK.out⟩
        ·
         rw [if_neg c41] at H
         exact absurd H (by simp)
       ·
        rw [if_neg c40] at H
        exact absurd H (by simp)
      ·
       rw [if_neg c39] at H
       exact absurd H (by simp)
  ·
   rw [if_neg c23] at H
   have c23b0 : (t178 == 1) = false := beq_eq_false_iff_ne.mpr c23
   have c23b1 : (t178 != 1) = true := bne_iff_ne.mpr c23
   by_cases c43 : t178 = 2
   ·
    rw [if_pos c43] at H
    have c43b0 : (t178 == 2) = true := beq_iff_eq.mpr c43
    have c43b1 : (t178 != 2) = false := bne_eq_false_iff_eq.mpr c43
    clear c43
    replace H := Option.bind_eq_some_iff.mp H
    obtain ⟨⟨t217, t218, t219⟩, A440, H⟩ := H
    replace H : ((spec_l01Pick.f s0_0 t218 t219 (([2, 2, 3] : List Int))).bind fun bt223 => ((spec_l01DrawOf.f k s0_0 bt223.2.1 bt223.2.2 t217 bt223.1).bind fun bt226 => ((spec_l01Next.f s0_0 bt226.2.1 bt226.2.2 2).bind fun bt229 => ((spec_l01DrawOf.f k s0_0 bt229.2.1 bt229.2.2 bt229.1 2).bind fun bt232 => (if bt226.1.size + bt232.1.size ≤ 9223372036854775807 then ((spec_l01Reversed.f k bt226.1).bind fun t235 => (if (bt226.1 ++ bt232.1).size + t235.size ≤ 9223372036854775807 then (some ((bt226.1 ++ bt232.1) ++ t235, bt232.2.1, bt232.2.2)) else (none))) else (none)))))) = some (r1, r2, r3) := H
    have A44 := Aside0.mk A440
    clear A440
    obtain ⟨y220, hy220⟩ : ∃ y_ : List Int, y_ = (([2, 2, 3] : List Int)) := ⟨_, rfl⟩
    replace H : ((spec_l01Pick.f s0_0 t218 t219 y220).bind fun bt223 => ((spec_l01DrawOf.f k s0_0 bt223.2.1 bt223.2.2 t217 bt223.1).bind fun bt226 => ((spec_l01Next.f s0_0 bt226.2.1 bt226.2.2 2).bind fun bt229 => ((spec_l01DrawOf.f k s0_0 bt229.2.1 bt229.2.2 bt229.1 2).bind fun bt232 => (if bt226.1.size + bt232.1.size ≤ 9223372036854775807 then ((spec_l01Reversed.f k bt226.1).bind fun t235 => (if (bt226.1 ++ bt232.1).size + t235.size ≤ 9223372036854775807 then (some ((bt226.1 ++ bt232.1) ++ t235, bt232.2.1, bt232.2.2)) else (none))) else (none)))))) = some (r1, r2, r3) := by first | (rw [hy220]; with_reducible exact H) | (have H2_ := (Option.bind_some _ _).symm.trans H; rw [hy220]; with_reducible exact H2_) | (have H2_ := (Option.bind_some _ _).symm.trans H; with_reducible exact H2_) | with_reducible exact H | (rw [hy220]; exact H) | exact H
    have Ny220 := Aside0.mk hy220
    clear hy220
    replace H := Option.bind_eq_some_iff.mp H
    obtain ⟨⟨t223, t224, t225⟩, A450, H⟩ := H
    replace H : ((spec_l01DrawOf.f k s0_0 t224 t225 t217 t223).bind fun bt226 => ((spec_l01Next.f s0_0 bt226.2.1 bt226.2.2 2).bind fun bt229 => ((spec_l01DrawOf.f k s0_0 bt229.2.1 bt229.2.2 bt229.1 2).bind fun bt232 => (if bt226.1.size + bt232.1.size ≤ 9223372036854775807 then ((spec_l01Reversed.f k bt226.1).bind fun t235 => (if (bt226.1 ++ bt232.1).size + t235.size ≤ 9223372036854775807 then (some ((bt226.1 ++ bt232.1) ++ t235, bt232.2.1, bt232.2.2)) else (none))) else (none))))) = some (r1, r2, r3) := H
    have A45 := Aside0.mk A450
    clear A450
    replace H := Option.bind_eq_some_iff.mp H
    obtain ⟨⟨t226, t227, t228⟩, A460, H⟩ := H
    replace H : ((spec_l01Next.f s0_0 t227 t228 2).bind fun bt229 => ((spec_l01DrawOf.f k s0_0 bt229.2.1 bt229.2.2 bt229.1 2).bind fun bt232 => (if t226.size + bt232.1.size ≤ 9223372036854775807 then ((spec_l01Reversed.f k t226).bind fun t235 => (if (t226 ++ bt232.1).size + t235.size ≤ 9223372036854775807 then (some ((t226 ++ bt232.1) ++ t235, bt232.2.1, bt232.2.2)) else (none))) else (none)))) = some (r1, r2, r3) := H
    have A46 := Aside0.mk A460
    clear A460
    replace H := Option.bind_eq_some_iff.mp H
    obtain ⟨⟨t229, t230, t231⟩, A470, H⟩ := H
    replace H : ((spec_l01DrawOf.f k s0_0 t230 t231 t229 2).bind fun bt232 => (if t226.size + bt232.1.size ≤ 9223372036854775807 then ((spec_l01Reversed.f k t226).bind fun t235 => (if (t226 ++ bt232.1).size + t235.size ≤ 9223372036854775807 then (some ((t226 ++ bt232.1) ++ t235, bt232.2.1, bt232.2.2)) else (none))) else (none))) = some (r1, r2, r3) := H
    have A47 := Aside0.mk A470
    clear A470
    replace H := Option.bind_eq_some_iff.mp H
    obtain ⟨⟨t232, t233, t234⟩, A480, H⟩ := H
    replace H : (if t226.size + t232.size ≤ 9223372036854775807 then ((spec_l01Reversed.f k t226).bind fun t235 => (if (t226 ++ t232).size + t235.size ≤ 9223372036854775807 then (some ((t226 ++ t232) ++ t235, t233, t234)) else (none))) else (none)) = some (r1, r2, r3) := H
    have A48 := Aside0.mk A480
    clear A480
    by_cases c49 : t226.size + t232.size ≤ 9223372036854775807
    ·
     rw [if_pos c49] at H
     have c49b0 := eq_true c49
     have c49b1 : decide (t226.size + t232.size ≤ 9223372036854775807) = true := decide_eq_true c49
     try have c49b2 : (9223372036854775807 < t226.size + t232.size) = False := eq_false (Nat.not_lt.2 c49)
     replace H := Option.bind_eq_some_iff.mp H
     obtain ⟨t235, A500, H⟩ := H
     replace H : (if (t226 ++ t232).size + t235.size ≤ 9223372036854775807 then (some ((t226 ++ t232) ++ t235, t233, t234)) else (none)) = some (r1, r2, r3) := H
     have A50 := Aside0.mk A500
     clear A500
     by_cases c51 : (t226 ++ t232).size + t235.size ≤ 9223372036854775807
     ·
      rw [if_pos c51] at H
      have c51b0 := eq_true c51
      have c51b1 : decide ((t226 ++ t232).size + t235.size ≤ 9223372036854775807) = true := decide_eq_true c51
      have c51y := c51
      try simp only [ByteArray.size_append] at c51y
      try have c51y0 := eq_true c51y
      try have c51y2 := eq_false (Nat.not_lt.2 c51y)
      clear c51y
      try have c51b2 : (9223372036854775807 < (t226 ++ t232).size + t235.size) = False := eq_false (Nat.not_lt.2 c51)
      simp only [Option.some.injEq, Prod.mk.injEq] at H
      obtain ⟨rfl, rfl, rfl⟩ := H
      go_enter Try.func80, Try.ntmps80
      go_wp2_with (first | ((with_reducible refine gate_callee (f := 42) rfl ?_); refine goesL_ (some 11) rfl rfl Try.func42 (by kernel_rfl) rfl #[.pointer (some ⟨g, 0, none⟩), .int .i64 6] rfl qV ?_; (with_reducible refine (spec_l01Next.calls g s0_0 s0_1 s0_2 6 t178 t179 t180 w0 _ ?side1 ?side2 A2.out).mono ?_); (case side1 => exact qI HI0.out); (case side2 => exact qS HB.out); rintro e w52 ⟨rfl, hi, hb, hk⟩; refine ⟨_, rfl, ?_⟩; have n0_ := Aside0.mk (KeepBut.trans (qK HK.out) hk (.inl rfl)); have n1_ := Aside0.mk (hb); have n2_ := Aside0.mk (hi); clear HK; clear HB; clear HI0; have HK := n0_; have HB := n1_; have HI0 := n2_; clear n0_ n1_ n2_) | ((with_reducible refine gate_callee (f := 42) rfl ?_); refine goesL_ (some 62) rfl rfl Try.func42 (by kernel_rfl) rfl #[.pointer (some ⟨g, 0, none⟩), .int .i64 12] rfl qV ?_; (with_reducible refine (spec_l01Next.calls g s0_0 t179 t180 12 t217 t218 t219 w0 _ ?side1 ?side2 A44.out).mono ?_); (case side1 => exact qI HI0.out); (case side2 => exact qS HB.out); rintro e w53 ⟨rfl, hi, hb, hk⟩; refine ⟨_, rfl, ?_⟩; have n0_ := Aside0.mk (KeepBut.trans (qK HK.out) hk (.inl rfl)); have n1_ := Aside0.mk (hb); have n2_ := Aside0.mk (hi); clear HK; clear HB; clear HI0; have HK := n0_; have HB := n1_; have HI0 := n2_; clear n0_ n1_ n2_) | ((with_reducible refine gate_dst (N := 64) rfl ?_); refine Kd.R_lit (Kd.int .i64) _ 2 ?hg (N := 64) ?hd (xs := ([2, 2, 3] : List Int)) (inner := [.int .i64 2, .int .i64 2, .int .i64 3]) (ok := fun _ => True) (okp := fun _ => True) ?hr ?hp (fun _ hk => hk) trivial (Below.refl _ _) (Nat.le_refl _) (by simp) ?_; (case hd => rfl); (case hg => rfl); (case hr => first | (go_simp; done) | (go_simp; rfl)); (case hp => exact (Reps.one (show Kd.M (Kd.int .i64) _ _ _ 2 [.int .i64 2] from rfl) (Reps.one (show Kd.M (Kd.int .i64) _ _ _ 2 [.int .i64 2] from rfl) (Reps.one (show Kd.M (Kd.int .i64) _ _ _ 3 [.int .i64 3] from rfl) (Reps.none _ _))))); intro v221 w54 ho55 hb hg_ hnew_; clear hg_ hnew_; (first | rw [← Ny220.out] at ho55 | (simp only [Int.reduceToNat] at ho55; rw [← Ny220.out] at ho55)); have n0_ := Aside0.mk (Kd.R_lower ho55 (keep_size (w := w) (g := g) (row := none) (qK HK.out))); have n1_ := Aside0.mk (IsS73.below (qI HI0.out) hb); have n2_ := Aside0.mk (KeepBut.trans (qK HK.out) (KeepBut.of_below hb g none) (.inl rfl)); have n3_ := Aside0.mk (below_step (qS HB.out) hb); clear HI0; clear HK; clear HB; have HO222 := n0_; have HI0 := n1_; have HK := n2_; have HB := n3_; clear n0_ n1_ n2_ n3_; clear hb ho55; obtain ⟨Ao56, co56, eo56⟩ := Kd.R_slice HO222.out; subst eo56) | ((with_reducible refine gate_callee (f := 44) rfl ?_); refine goesL_ (some 65) rfl rfl Try.func44 (by kernel_rfl) rfl #[.pointer (some ⟨g, 0, none⟩), .slice Ao56 y220.length co56] rfl qV ?_; (with_reducible refine (spec_l01Pick.calls g s0_0 t218 t219 _ _ y220 t223 t224 t225 w0 _ ?side1 ?side2 ?side3 ?side4 ?side5 A45.out).mono ?_); (case side1 => exact qI HI0.out); (case side2 => exact qS HB.out); (case side3 => exact qC (Kd.R_reads' HO222.out).2.2); (case side4 => exact (Kd.R_reads' HO222.out).2.1); (case side5 => exact far_slice (IsS73.own_ne HI0.out HO222.out (by decide))); rintro e w57 ⟨rfl, hi, hb, hk⟩; refine ⟨_, rfl, ?_⟩; have n0_ := Aside0.mk (Kd.R_mono (Kd.R_keep (IsS73.apart (show IsS73 w0 _ g s0_0 t218 t219 from qI HI0.out) (qR HO222.out) (by decide)) hk (fun _ h => h.2)) (fun _ h => h.1)); have n1_ := Aside0.mk (KeepBut.trans (qK HK.out) hk (.inl rfl)); have n2_ := Aside0.mk (hb); have n3_ := Aside0.mk (hi); clear HO222; clear HK; clear HB; clear HI0; have HO222 := n0_; have HK := n1_; have HB := n2_; have HI0 := n3_; clear n0_ n1_ n2_ n3_) | ((with_reducible refine gate_callee (f := 41) rfl ?_); refine goesL_ (some 66) rfl rfl Try.func41 (by kernel_rfl) rfl #[.pointer (some ⟨g, 0, none⟩), .int .i64 t217, .int .i64 t223] rfl qV ?_; (with_reducible refine (spec_l01DrawOf.calls k g s0_0 t224 t225 t217 t223 t226 t227 t228 w0 _ ?side1 ?side2 A46.out).mono ?_); (case side1 => exact qI HI0.out); (case side2 => exact qS HB.out); rintro e w58 ⟨rfl, hi, hb, hk⟩; refine ⟨_, rfl, ?_⟩; have n0_ := Aside0.mk (Kd.R_mono (Kd.R_keep (IsS73.apart (show IsS73 w0 _ g s0_0 t224 t225 from qI HI0.out) (qR HO222.out) (by decide)) hk (fun _ h => h.2)) (fun _ h => h.1)); have n1_ := Aside0.mk (KeepBut.trans (qK HK.out) hk (.inl rfl)); have n2_ := Aside0.mk (hb); have n3_ := Aside0.mk (hi); clear HO222; clear HK; clear HB; clear HI0; have HO222 := n0_; have HK := n1_; have HB := n2_; have HI0 := n3_; clear n0_ n1_ n2_ n3_) | ((with_reducible refine gate_callee (f := 42) rfl ?_); refine goesL_ (some 70) rfl rfl Try.func42 (by kernel_rfl) rfl #[.pointer (some ⟨g, 0, none⟩), .int .i64 2] rfl qV ?_; (with_reducible refine (spec_l01Next.calls g s0_0 t227 t228 2 t229 t230 t231 w0 _ ?side1 ?side2 A47.out).mono ?_); (case side1 => exact qI HI0.out); (case side2 => exact qS HB.out); rintro e w59 ⟨rfl, hi, hb, hk⟩; refine ⟨_, rfl, ?_⟩; have n0_ := Aside0.mk (Kd.R_mono (Kd.R_keep (IsS73.apart (show IsS73 w0 _ g s0_0 t227 t228 from qI HI0.out) (qR HO222.out) (by decide)) hk (fun _ h => h.2)) (fun _ h => h.1)); have n1_ := Aside0.mk (KeepBut.trans (qK HK.out) hk (.inl rfl)); have n2_ := Aside0.mk (hb); have n3_ := Aside0.mk (hi); clear HO222; clear HK; clear HB; clear HI0; have HO222 := n0_; have HK := n1_; have HB := n2_; have HI0 := n3_; clear n0_ n1_ n2_ n3_) | ((with_reducible refine gate_callee (f := 41) rfl ?_); refine goesL_ (some 71) rfl rfl Try.func41 (by kernel_rfl) rfl #[.pointer (some ⟨g, 0, none⟩), .int .i64 t229, .int .i64 2] rfl qV ?_; (with_reducible refine (spec_l01DrawOf.calls k g s0_0 t230 t231 t229 2 t232 t233 t234 w0 _ ?side1 ?side2 A48.out).mono ?_); (case side1 => exact qI HI0.out); (case side2 => exact qS HB.out); rintro e w60 ⟨rfl, hi, hb, hk⟩; refine ⟨_, rfl, ?_⟩; have n0_ := Aside0.mk (Kd.R_mono (Kd.R_keep (IsS73.apart (show IsS73 w0 _ g s0_0 t230 t231 from qI HI0.out) (qR HO222.out) (by decide)) hk (fun _ h => h.2)) (fun _ h => h.1)); have n1_ := Aside0.mk (KeepBut.trans (qK HK.out) hk (.inl rfl)); have n2_ := Aside0.mk (hb); have n3_ := Aside0.mk (hi); clear HO222; clear HK; clear HB; clear HI0; have HO222 := n0_; have HK := n1_; have HB := n2_; have HI0 := n3_; clear n0_ n1_ n2_ n3_) | ((with_reducible refine gate_callee (f := 86) rfl ?_); refine goesL_ (some 74) rfl rfl Try.func86 (by kernel_rfl) rfl #[.string t226] rfl qV ?_; (with_reducible refine (spec_l01Reversed.calls k t226 t235 _ A50.out).mono ?_); rintro e w61 ⟨rfl, hb⟩; refine ⟨_, rfl, ?_⟩; have n0_ := Aside0.mk (Kd.R_below (qR HO222.out) hb); have n1_ := Aside0.mk (IsS73.below (qI HI0.out) hb); have n2_ := Aside0.mk (KeepBut.trans (qK HK.out) (KeepBut.of_below hb g none) (.inl rfl)); have n3_ := Aside0.mk (below_step (qS HB.out) hb); clear HO222; clear HI0; clear HK; clear HB; have HO222 := n0_; have HI0 := n1_; have HK := n2_; have HB := n3_; clear n0_ n1_ n2_ n3_))
      go_ret
      exact ⟨qE, qI HI0.out, qS HB.out, qK HK.out⟩
     ·
      rw [if_neg c51] at H
      exact absurd H (by simp)
    ·
     rw [if_neg c49] at H
     exact absurd H (by simp)
   ·
    rw [if_neg c43] at H
    have c43b0 : (t178 == 2) = false := beq_eq_false_iff_ne.mpr c43
    have c43b1 : (t178 != 2) = true := bne_iff_ne.mpr c43
    by_cases c62 : t178 = 3
    ·
     rw [if_pos c62] at H
     have c62b0 : (t178 == 3) = true := beq_iff_eq.mpr c62
     have c62b1 : (t178 != 3) = false := bne_eq_false_iff_eq.mpr c62
     clear c62
     obtain ⟨y236, hy236⟩ : ∃ y_ : List Int, y_ = (([20, 40, 61] : List Int)) := ⟨_, rfl⟩
     replace H : ((spec_l01Pick.f s0_0 t179 t180 y236).bind fun bt239 => ((spec_l01Next.f s0_0 bt239.2.1 bt239.2.2 bt239.1).bind fun bt242 => ((spec_l01Pick.f s0_0 bt242.2.1 bt242.2.2 (([1, 2, 2, 3, 3, 4, 5] : List Int))).bind fun bt248 => ((spec_l01DrawOf.f k s0_0 bt248.2.1 bt248.2.2 bt242.1 bt248.1).bind fun bt251 => (some (bt251.1, bt251.2.1, bt251.2.2)))))) = some (r1, r2, r3) := by first | (rw [hy236]; with_reducible exact H) | (have H2_ := (Option.bind_some _ _).symm.trans H; rw [hy236]; with_reducible exact H2_) | (have H2_ := (Option.bind_some _ _).symm.trans H; with_reducible exact H2_) | with_reducible exact H | (rw [hy236]; exact H) | exact H
     have Ny236 := Aside0.mk hy236
     clear hy236
     replace H := Option.bind_eq_some_iff.mp H
     obtain ⟨⟨t239, t240, t241⟩, A630, H⟩ := H
     replace H : ((spec_l01Next.f s0_0 t240 t241 t239).bind fun bt242 => ((spec_l01Pick.f s0_0 bt242.2.1 bt242.2.2 (([1, 2, 2, 3, 3, 4, 5] : List Int))).bind fun bt248 => ((spec_l01DrawOf.f k s0_0 bt248.2.1 bt248.2.2 bt242.1 bt248.1).bind fun bt251 => (some (bt251.1, bt251.2.1, bt251.2.2))))) = some (r1, r2, r3) := H
     have A63 := Aside0.mk A630
     clear A630
     replace H := Option.bind_eq_some_iff.mp H
     obtain ⟨⟨t242, t243, t244⟩, A640, H⟩ := H
     replace H : ((spec_l01Pick.f s0_0 t243 t244 (([1, 2, 2, 3, 3, 4, 5] : List Int))).bind fun bt248 => ((spec_l01DrawOf.f k s0_0 bt248.2.1 bt248.2.2 t242 bt248.1).bind fun bt251 => (some (bt251.1, bt251.2.1, bt251.2.2)))) = some (r1, r2, r3) := H
     have A64 := Aside0.mk A640
     clear A640
     obtain ⟨y245, hy245⟩ : ∃ y_ : List Int, y_ = (([1, 2, 2, 3, 3, 4, 5] : List Int)) := ⟨_, rfl⟩
     replace H : ((spec_l01Pick.f s0_0 t243 t244 y245).bind fun bt248 => ((spec_l01DrawOf.f k s0_0 bt248.2.1 bt248.2.2 t242 bt248.1).bind fun bt251 => (some (bt251.1, bt251.2.1, bt251.2.2)))) = some (r1, r2, r3) := by first | (rw [hy245]; with_reducible exact H) | (have H2_ := (Option.bind_some _ _).symm.trans H; rw [hy245]; with_reducible exact H2_) | (have H2_ := (Option.bind_some _ _).symm.trans H; with_reducible exact H2_) | with_reducible exact H | (rw [hy245]; exact H) | exact H
     have Ny245 := Aside0.mk hy245
     clear hy245
     replace H := Option.bind_eq_some_iff.mp H
     obtain ⟨⟨t248, t249, t250⟩, A650, H⟩ := H
     replace H : ((spec_l01DrawOf.f k s0_0 t249 t250 t242 t248).bind fun bt251 => (some (bt251.1, bt251.2.1, bt251.2.2))) = some (r1, r2, r3) := H
     have A65 := Aside0.mk A650
     clear A650
     replace H := Option.bind_eq_some_iff.mp H
     obtain ⟨⟨t251, t252, t253⟩, A660, H⟩ := H
     replace H : (some (t251, t252, t253)) = some (r1, r2, r3) := H
     have A66 := Aside0.mk A660
     clear A660
     simp only [Option.some.injEq, Prod.mk.injEq] at H
     obtain ⟨rfl, rfl, rfl⟩ := H
     go_enter Try.func80, Try.ntmps80
     go_wp2_with (first | ((with_reducible refine gate_callee (f := 42) rfl ?_); refine goesL_ (some 11) rfl rfl Try.func42 (by kernel_rfl) rfl #[.pointer (some ⟨g, 0, none⟩), .int .i64 6] rfl qV ?_; (with_reducible refine (spec_l01Next.calls g s0_0 s0_1 s0_2 6 t178 t179 t180 w0 _ ?side1 ?side2 A2.out).mono ?_); (case side1 => exact qI HI0.out); (case side2 => exact qS HB.out); rintro e w67 ⟨rfl, hi, hb, hk⟩; refine ⟨_, rfl, ?_⟩; have n0_ := Aside0.mk (KeepBut.trans (qK HK.out) hk (.inl rfl)); have n1_ := Aside0.mk (hb); have n2_ := Aside0.mk (hi); clear HK; clear HB; clear HI0; have HK := n0_; have HB := n1_; have HI0 := n2_; clear n0_ n1_ n2_) | ((with_reducible refine gate_dst (N := 81) rfl ?_); refine Kd.R_lit (Kd.int .i64) _ 2 ?hg (N := 81) ?hd (xs := ([20, 40, 61] : List Int)) (inner := [.int .i64 20, .int .i64 40, .int .i64 61]) (ok := fun _ => True) (okp := fun _ => True) ?hr ?hp (fun _ hk => hk) trivial (Below.refl _ _) (Nat.le_refl _) (by simp) ?_; (case hd => rfl); (case hg => rfl); (case hr => first | (go_simp; done) | (go_simp; rfl)); (case hp => exact (Reps.one (show Kd.M (Kd.int .i64) _ _ _ 20 [.int .i64 20] from rfl) (Reps.one (show Kd.M (Kd.int .i64) _ _ _ 40 [.int .i64 40] from rfl) (Reps.one (show Kd.M (Kd.int .i64) _ _ _ 61 [.int .i64 61] from rfl) (Reps.none _ _))))); intro v237 w68 ho69 hb hg_ hnew_; clear hg_ hnew_; (first | rw [← Ny236.out] at ho69 | (simp only [Int.reduceToNat] at ho69; rw [← Ny236.out] at ho69)); have n0_ := Aside0.mk (Kd.R_lower ho69 (keep_size (w := w) (g := g) (row := none) (qK HK.out))); have n1_ := Aside0.mk (IsS73.below (qI HI0.out) hb); have n2_ := Aside0.mk (KeepBut.trans (qK HK.out) (KeepBut.of_below hb g none) (.inl rfl)); have n3_ := Aside0.mk (below_step (qS HB.out) hb); clear HI0; clear HK; clear HB; have HO238 := n0_; have HI0 := n1_; have HK := n2_; have HB := n3_; clear n0_ n1_ n2_ n3_; clear hb ho69; obtain ⟨Ao70, co70, eo70⟩ := Kd.R_slice HO238.out; subst eo70) | ((with_reducible refine gate_callee (f := 44) rfl ?_); refine goesL_ (some 82) rfl rfl Try.func44 (by kernel_rfl) rfl #[.pointer (some ⟨g, 0, none⟩), .slice Ao70 y236.length co70] rfl qV ?_; (with_reducible refine (spec_l01Pick.calls g s0_0 t179 t180 _ _ y236 t239 t240 t241 w0 _ ?side1 ?side2 ?side3 ?side4 ?side5 A63.out).mono ?_); (case side1 => exact qI HI0.out); (case side2 => exact qS HB.out); (case side3 => exact qC (Kd.R_reads' HO238.out).2.2); (case side4 => exact (Kd.R_reads' HO238.out).2.1); (case side5 => exact far_slice (IsS73.own_ne HI0.out HO238.out (by decide))); rintro e w71 ⟨rfl, hi, hb, hk⟩; refine ⟨_, rfl, ?_⟩; have n0_ := Aside0.mk (Kd.R_mono (Kd.R_keep (IsS73.apart (show IsS73 w0 _ g s0_0 t179 t180 from qI HI0.out) (qR HO238.out) (by decide)) hk (fun _ h => h.2)) (fun _ h => h.1)); have n1_ := Aside0.mk (KeepBut.trans (qK HK.out) hk (.inl rfl)); have n2_ := Aside0.mk (hb); have n3_ := Aside0.mk (hi); clear HO238; clear HK; clear HB; clear HI0; have HO238 := n0_; have HK := n1_; have HB := n2_; have HI0 := n3_; clear n0_ n1_ n2_ n3_) | ((with_reducible refine gate_callee (f := 42) rfl ?_); refine goesL_ (some 83) rfl rfl Try.func42 (by kernel_rfl) rfl #[.pointer (some ⟨g, 0, none⟩), .int .i64 t239] rfl qV ?_; (with_reducible refine (spec_l01Next.calls g s0_0 t240 t241 t239 t242 t243 t244 w0 _ ?side1 ?side2 A64.out).mono ?_); (case side1 => exact qI HI0.out); (case side2 => exact qS HB.out); rintro e w72 ⟨rfl, hi, hb, hk⟩; refine ⟨_, rfl, ?_⟩; have n0_ := Aside0.mk (Kd.R_mono (Kd.R_keep (IsS73.apart (show IsS73 w0 _ g s0_0 t240 t241 from qI HI0.out) (qR HO238.out) (by decide)) hk (fun _ h => h.2)) (fun _ h => h.1)); have n1_ := Aside0.mk (KeepBut.trans (qK HK.out) hk (.inl rfl)); have n2_ := Aside0.mk (hb); have n3_ := Aside0.mk (hi); clear HO238; clear HK; clear HB; clear HI0; have HO238 := n0_; have HK := n1_; have HB := n2_; have HI0 := n3_; clear n0_ n1_ n2_ n3_) | ((with_reducible refine gate_dst (N := 85) rfl ?_); refine Kd.R_lit (Kd.int .i64) _ 2 ?hg (N := 85) ?hd (xs := ([1, 2, 2, 3, 3, 4, 5] : List Int)) (inner := [.int .i64 1, .int .i64 2, .int .i64 2, .int .i64 3, .int .i64 3, .int .i64 4, .int .i64 5]) (ok := fun _ => True) (okp := fun _ => True) ?hr ?hp (fun _ hk => hk) trivial (Below.refl _ _) (Nat.le_refl _) (by simp) ?_; (case hd => rfl); (case hg => rfl); (case hr => first | (go_simp; done) | (go_simp; rfl)); (case hp => exact (Reps.one (show Kd.M (Kd.int .i64) _ _ _ 1 [.int .i64 1] from rfl) (Reps.one (show Kd.M (Kd.int .i64) _ _ _ 2 [.int .i64 2] from rfl) (Reps.one (show Kd.M (Kd.int .i64) _ _ _ 2 [.int .i64 2] from rfl) (Reps.one (show Kd.M (Kd.int .i64) _ _ _ 3 [.int .i64 3] from rfl) (Reps.one (show Kd.M (Kd.int .i64) _ _ _ 3 [.int .i64 3] from rfl) (Reps.one (show Kd.M (Kd.int .i64) _ _ _ 4 [.int .i64 4] from rfl) (Reps.one (show Kd.M (Kd.int .i64) _ _ _ 5 [.int .i64 5] from rfl) (Reps.none _ _))))))))); intro v246 w73 ho74 hb hg_ hnew_; clear hg_ hnew_; (first | rw [← Ny245.out] at ho74 | (simp only [Int.reduceToNat] at ho74; rw [← Ny245.out] at ho74)); have n0_ := Aside0.mk (Kd.R_elder' (qR HO238.out) (Kd.R_base ho74) hb); have n1_ := Aside0.mk (Kd.R_lower (Kd.R_new' ho74 (Kd.R_lt (qR HO238.out))) (keep_size (w := w) (g := g) (row := none) (qK HK.out))); have n2_ := Aside0.mk (IsS73.below (qI HI0.out) hb); have n3_ := Aside0.mk (KeepBut.trans (qK HK.out) (KeepBut.of_below hb g none) (.inl rfl)); have n4_ := Aside0.mk (below_step (qS HB.out) hb); clear HO238; clear HI0; clear HK; clear HB; have HO238 := n0_; have HO247 := n1_; have HI0 := n2_; have HK := n3_; have HB := n4_; clear n0_ n1_ n2_ n3_ n4_; clear hb ho74; obtain ⟨Ao75, co75, eo75⟩ := Kd.R_slice HO247.out; subst eo75) | ((with_reducible refine gate_callee (f := 44) rfl ?_); refine goesL_ (some 86) rfl rfl Try.func44 (by kernel_rfl) rfl #[.pointer (some ⟨g, 0, none⟩), .slice Ao75 y245.length co75] rfl qV ?_; (with_reducible refine (spec_l01Pick.calls g s0_0 t243 t244 _ _ y245 t248 t249 t250 w0 _ ?side1 ?side2 ?side3 ?side4 ?side5 A65.out).mono ?_); (case side1 => exact qI HI0.out); (case side2 => exact qS HB.out); (case side3 => exact qC (Kd.R_reads' HO247.out).2.2); (case side4 => exact (Kd.R_reads' HO247.out).2.1); (case side5 => exact far_slice (IsS73.own_ne HI0.out HO247.out (by decide))); rintro e w76 ⟨rfl, hi, hb, hk⟩; refine ⟨_, rfl, ?_⟩; have n0_ := Aside0.mk (Kd.R_mono (Kd.R_keep (IsS73.apart (show IsS73 w0 _ g s0_0 t243 t244 from qI HI0.out) (qR HO238.out) (by decide)) hk (fun _ h => h.2)) (fun _ h => h.1)); have n1_ := Aside0.mk (Kd.R_mono (Kd.R_keep (IsS73.apart (show IsS73 w0 _ g s0_0 t243 t244 from qI HI0.out) (qR HO247.out) (by decide)) hk (fun _ h => h.2)) (fun _ h => h.1)); have n2_ := Aside0.mk (KeepBut.trans (qK HK.out) hk (.inl rfl)); have n3_ := Aside0.mk (hb); have n4_ := Aside0.mk (hi); clear HO238; clear HO247; clear HK; clear HB; clear HI0; have HO238 := n0_; have HO247 := n1_; have HK := n2_; have HB := n3_; have HI0 := n4_; clear n0_ n1_ n2_ n3_ n4_) | ((with_reducible refine gate_callee (f := 41) rfl ?_); refine goesL_ (some 87) rfl rfl Try.func41 (by kernel_rfl) rfl #[.pointer (some ⟨g, 0, none⟩), .int .i64 t242, .int .i64 t248] rfl qV ?_; (with_reducible refine (spec_l01DrawOf.calls k g s0_0 t249 t250 t242 t248 t251 t252 t253 w0 _ ?side1 ?side2 A66.out).mono ?_); (case side1 => exact qI HI0.out); (case side2 => exact qS HB.out); rintro e w77 ⟨rfl, hi, hb, hk⟩; refine ⟨_, rfl, ?_⟩; have n0_ := Aside0.mk (Kd.R_mono (Kd.R_keep (IsS73.apart (show IsS73 w0 _ g s0_0 t249 t250 from qI HI0.out) (qR HO238.out) (by decide)) hk (fun _ h => h.2)) (fun _ h => h.1)); have n1_ := Aside0.mk (Kd.R_mono (Kd.R_keep (IsS73.apart (show IsS73 w0 _ g s0_0 t249 t250 from qI HI0.out) (qR HO247.out) (by decide)) hk (fun _ h => h.2)) (fun _ h => h.1)); have n2_ := Aside0.mk (KeepBut.trans (qK HK.out) hk (.inl rfl)); have n3_ := Aside0.mk (hb); have n4_ := Aside0.mk (hi); clear HO238; clear HO247; clear HK; clear HB; clear HI0; have HO238 := n0_; have HO247 := n1_; have HK := n2_; have HB := n3_; have HI0 := n4_; clear n0_ n1_ n2_ n3_ n4_))
     go_ret
     exact ⟨qE, qI HI0.out, qS HB.out, qK HK.out⟩
    ·
     rw [if_neg c62] at H
     have c62b0 : (t178 == 3) = false := beq_eq_false_iff_ne.mpr c62
     have c62b1 : (t178 != 3) = true := bne_iff_ne.mpr c62
     replace H := Option.bind_eq_some_iff.mp H
     obtain ⟨⟨t254, t255, t256⟩, A780, H⟩ := H
     replace H : (some (t254, t255, t256)) = some (r1, r2, r3) := H
     have A78 := Aside0.mk A780
     clear A780
     simp only [Option.some.injEq, Prod.mk.injEq] at H
     obtain ⟨rfl, rfl, rfl⟩ := H
     go_enter Try.func80, Try.ntmps80
     go_wp2_with (first | ((with_reducible refine gate_callee (f := 42) rfl ?_); refine goesL_ (some 11) rfl rfl Try.func42 (by kernel_rfl) rfl #[.pointer (some ⟨g, 0, none⟩), .int .i64 6] rfl qV ?_; (with_reducible refine (spec_l01Next.calls g s0_0 s0_1 s0_2 6 t178 t179 t180 w0 _ ?side1 ?side2 A2.out).mono ?_); (case side1 => exact qI HI0.out); (case side2 => exact qS HB.out); rintro e w79 ⟨rfl, hi, hb, hk⟩; refine ⟨_, rfl, ?_⟩; have n0_ := Aside0.mk (KeepBut.trans (qK HK.out) hk (.inl rfl)); have n1_ := Aside0.mk (hb); have n2_ := Aside0.mk (hi); clear HK; clear HB; clear HI0; have HK := n0_; have HB := n1_; have HI0 := n2_; clear n0_ n1_ n2_) | ((with_reducible refine gate_callee (f := 87) rfl ?_); refine goesL_ (some 89) rfl rfl Try.func87 (by kernel_rfl) rfl #[.pointer (some ⟨g, 0, none⟩)] rfl qV ?_; (with_reducible refine (spec_l01Small.calls k g s0_0 t179 t180 t254 t255 t256 w0 _ ?side1 ?side2 A78.out).mono ?_); (case side1 => exact qI HI0.out); (case side2 => exact qS HB.out); rintro e w80 ⟨rfl, hi, hb, hk⟩; refine ⟨_, rfl, ?_⟩; have n0_ := Aside0.mk (KeepBut.trans (qK HK.out) hk (.inl rfl)); have n1_ := Aside0.mk (hb); have n2_ := Aside0.mk (hi); clear HK; clear HB; clear HI0; have HK := n0_; have HB := n1_; have HI0 := n2_; clear n0_ n1_ n2_))
     go_ret
     exact ⟨qE, qI HI0.out, qS HB.out, qK HK.out⟩

end Go.Proofs.Ytoadancbpgignaa.PF

namespace Go.Proofs.Ytoadancbpgignaa.PF
open Go.RowKit Go.Proofs.YtoadancbpgignaaW.PrintWords Go.Proofs.YtoadancbpgignaaW.PrintLast Go.Proofs.YtoadancbpgignaaW.PrintMore
attribute [local go_sem] max2_int min2_int max_two min_two max_three min_three max_four min_four   -- for this text's walks alone
set_option linter.unusedVariables false
set_option linter.unusedSimpArgs false

/-! ### spec_l09Draw: function 69 -/
mutual
def spec_l09Draw.j1 : Nat → ByteArray → ByteArray → List Int → Int → Int → Option (ByteArray × ByteArray × Int × Int)
 | 0, _, _, _, _, _ => none
 | k + 1, x6, x7, x1000, x1001, x1002 => (spec_l01Next.f x1000 x1001 x1002 4).bind fun bt288 => (if bt288.1 = 0 then ((spec_l01Next.f x1000 bt288.2.1 bt288.2.2 (x6.size : Int)).bind fun bt291 => (if 0 ≤ bt291.1 then (if bt291.1 ≤ (x7.size : Int) then ((spec_l01Next.f x1000 bt291.2.1 bt291.2.2 4).bind fun bt294 => (if 0 ≤ (mx (wrap64 (((x7.extract (bt291.1 : Int).toNat x7.size).size : Int) - bt294.1)) 0) then (if (mx (wrap64 (((x7.extract (bt291.1 : Int).toNat x7.size).size : Int) - bt294.1)) 0) ≤ ((x7.extract (bt291.1 : Int).toNat x7.size).size : Int) then (some ((x7.extract (bt291.1 : Int).toNat x7.size).extract 0 ((mx (wrap64 (((x7.extract (bt291.1 : Int).toNat x7.size).size : Int) - bt294.1)) 0) : Int).toNat, x6, bt294.2.1, bt294.2.2)) else (none)) else (none))) else (none)) else (none))) else (if bt288.1 = 1 then (if (x7.size : Int) > 2 then ((spec_l01Next.f x1000 bt288.2.1 bt288.2.2 2).bind fun bt297 => (spec_l09Draw.j2 k x6 x7 (bt297.1 == 0) x1000 bt297.2.1 bt297.2.2)) else (spec_l09Draw.j2 k x6 x7 false x1000 bt288.2.1 bt288.2.2)) else (some (x7, x6, bt288.2.1, bt288.2.2))))
def spec_l09Draw.j2 : Nat → ByteArray → ByteArray → Bool → List Int → Int → Int → Option (ByteArray × ByteArray × Int × Int)
 | 0, _, _, _, _, _, _ => none
 | k + 1, x6, x7, x89, x1000, x1001, x1002 => if x89 = true then (if 0 ≤ (wrap64 ((x7.size : Int) - 1)) then (if (wrap64 ((x7.size : Int) - 1)) ≤ (x7.size : Int) then ((spec_l01Next.f x1000 x1001 x1002 3).bind fun bt300 => ((spec_l01Letter.f bt300.1).bind fun t303 => (if (x7.extract 0 ((wrap64 ((x7.size : Int) - 1)) : Int).toNat).size + t303.size ≤ 9223372036854775807 then (some ((x7.extract 0 ((wrap64 ((x7.size : Int) - 1)) : Int).toNat) ++ t303, x6, bt300.2.1, bt300.2.2)) else (none)))) else (none)) else (none)) else (some (x7, x6, x1001, x1002))
def spec_l09Draw.l0 : Nat → ByteArray → ByteArray → List Int → Int → List Int → Int → Int → Option (ByteArray × ByteArray × Int × Int)
 | 0, _, _, _, _, _, _, _ => none
 | k + 1, x6, x7, x8, x9, x1000, x1001, x1002 => if x9 > 0 then (if (x7.size : Int) < 48 then ((spec_l01Next.f x1000 x1001 x1002 (x8.length : Int)).bind fun bt284 => (if 0 ≤ bt284.1 then (if bt284.1 < (x8.length : Int) then (if 0 ≤ (rd x8 bt284.1) then (if (rd x8 bt284.1) ≤ (x6.size : Int) then (if x7.size + (x6.extract ((rd x8 bt284.1) : Int).toNat x6.size).size ≤ 9223372036854775807 then (spec_l09Draw.l0 k x6 (x7 ++ (x6.extract ((rd x8 bt284.1) : Int).toNat x6.size)) x8 (wrap64 (x9 - 1)) x1000 bt284.2.1 bt284.2.2) else (none)) else (none)) else (none)) else (none)) else (none))) else (spec_l09Draw.j1 k x6 x7 x1000 x1001 x1002)) else (spec_l09Draw.j1 k x6 x7 x1000 x1001 x1002)
end
def spec_l09Draw.f (k : Nat) (s0_0 : List Int) (s0_1 : Int) (s0_2 : Int) : Option (ByteArray × ByteArray × Int × Int) := (spec_l01Next.f s0_0 s0_1 s0_2 3).bind fun bt257 => (if bt257.1 = 0 then ((spec_l01Draw.f k s0_0 bt257.2.1 bt257.2.2).bind fun bt260 => ((spec_l01Next.f s0_0 bt260.2.1 bt260.2.2 (wrap64 ((bt260.1.size : Int) + 1))).bind fun bt263 => (if 0 ≤ bt263.1 then (if bt263.1 ≤ (bt260.1.size : Int) then (some (bt260.1, bt260.1.extract 0 (bt263.1 : Int).toNat, bt263.2.1, bt263.2.2)) else (none)) else (none)))) else ((spec_l01Next.f s0_0 bt257.2.1 bt257.2.2 3).bind fun bt266 => ((spec_l01DrawOf.f k s0_0 bt266.2.1 bt266.2.2 (wrap64 (1 + bt266.1)) 2).bind fun bt269 => ((spec_l01Next.f s0_0 bt269.2.1 bt269.2.2 2).bind fun bt272 => ((spec_l01DrawOf.f k s0_0 bt272.2.1 bt272.2.2 bt272.1 2).bind fun bt275 => (if bt269.1.size + bt275.1.size ≤ 9223372036854775807 then (if (bt269.1 ++ bt275.1).size + bt269.1.size ≤ 9223372036854775807 then ((spec_l09Ends.f k ((bt269.1 ++ bt275.1) ++ bt269.1)).bind fun t278 => ((spec_l01Next.f s0_0 bt275.2.1 bt275.2.2 6).bind fun bt281 => (spec_l09Draw.l0 k ((bt269.1 ++ bt275.1) ++ bt269.1) ((bt269.1 ++ bt275.1) ++ bt269.1) t278 bt281.1 s0_0 bt281.2.1 bt281.2.2))) else (none)) else (none)))))))
theorem spec_l09Draw.mono_l : ∀ k, (∀ y0 y1 y2 y3 y4, LeO (spec_l09Draw.j1 k y0 y1 y2 y3 y4) (spec_l09Draw.j1 (k + 1) y0 y1 y2 y3 y4)) ∧ (∀ y0 y1 y2 y3 y4 y5, LeO (spec_l09Draw.j2 k y0 y1 y2 y3 y4 y5) (spec_l09Draw.j2 (k + 1) y0 y1 y2 y3 y4 y5)) ∧ (∀ y0 y1 y2 y3 y4 y5 y6, LeO (spec_l09Draw.l0 k y0 y1 y2 y3 y4 y5 y6) (spec_l09Draw.l0 (k + 1) y0 y1 y2 y3 y4 y5 y6))
 | 0 => ⟨fun _ _ _ _ _ r h => by simp [spec_l09Draw.j1] at h, fun _ _ _ _ _ _ r h => by simp [spec_l09Draw.j2] at h, fun _ _ _ _ _ _ _ r h => by simp [spec_l09Draw.l0] at h⟩
 | k + 1 => by
  obtain ⟨ih0, ih1, ih2⟩ := spec_l09Draw.mono_l k
  refine ⟨?_, ?_, ?_⟩
  ·
   intro y0 y1 y2 y3 y4
   unfold spec_l09Draw.j1
   repeat' first
   | (with_reducible exact ih0 _ _ _ _ _)
   | (with_reducible exact ih1 _ _ _ _ _ _)
   | (with_reducible exact ih2 _ _ _ _ _ _ _)
   | (with_reducible exact spec_l01Draw.mono _ _ _ _)
   | (with_reducible exact spec_l01DrawOf.mono _ _ _ _ _ _)
   | (with_reducible exact spec_l09Ends.mono _ _)
   | (with_reducible exact LeO.refl _)
   | (with_reducible exact LeO.none _)
   | (with_reducible refine LeO.ite ?_ ?_)
   | (with_reducible refine LeO.bind ?_ (fun _ => ?_))
  ·
   intro y0 y1 y2 y3 y4 y5
   unfold spec_l09Draw.j2
   repeat' first
   | (with_reducible exact ih0 _ _ _ _ _)
   | (with_reducible exact ih1 _ _ _ _ _ _)
   | (with_reducible exact ih2 _ _ _ _ _ _ _)
   | (with_reducible exact spec_l01Draw.mono _ _ _ _)
   | (with_reducible exact spec_l01DrawOf.mono _ _ _ _ _ _)
   | (with_reducible exact spec_l09Ends.mono _ _)
   | (with_reducible exact LeO.refl _)
   | (with_reducible exact LeO.none _)
   | (with_reducible refine LeO.ite ?_ ?_)
   | (with_reducible refine LeO.bind ?_ (fun _ => ?_))
  ·
   intro y0 y1 y2 y3 y4 y5 y6
   unfold spec_l09Draw.l0
   repeat' first
   | (with_reducible exact ih0 _ _ _ _ _)
   | (with_reducible exact ih1 _ _ _ _ _ _)
   | (with_reducible exact ih2 _ _ _ _ _ _ _)
   | (with_reducible exact spec_l01Draw.mono _ _ _ _)
   | (with_reducible exact spec_l01DrawOf.mono _ _ _ _ _ _)
   | (with_reducible exact spec_l09Ends.mono _ _)
   | (with_reducible exact LeO.refl _)
   | (with_reducible exact LeO.none _)
   | (with_reducible refine LeO.ite ?_ ?_)
   | (with_reducible refine LeO.bind ?_ (fun _ => ?_))
theorem spec_l09Draw.mono : ∀ a0 a1 a2 k, LeO (spec_l09Draw.f k a0 a1 a2) (spec_l09Draw.f (k + 1) a0 a1 a2) := by
 intro a0 a1 a2 k
 obtain ⟨ih0, ih1, ih2⟩ := spec_l09Draw.mono_l k
 unfold spec_l09Draw.f
 repeat' first
   | (with_reducible exact ih0 _ _ _ _ _)
   | (with_reducible exact ih1 _ _ _ _ _ _)
   | (with_reducible exact ih2 _ _ _ _ _ _ _)
   | (with_reducible exact spec_l01Draw.mono _ _ _ _)
   | (with_reducible exact spec_l01DrawOf.mono _ _ _ _ _ _)
   | (with_reducible exact spec_l09Ends.mono _ _)
   | (with_reducible exact LeO.refl _)
   | (with_reducible exact LeO.none _)
   | (with_reducible refine LeO.ite ?_ ?_)
   | (with_reducible refine LeO.bind ?_ (fun _ => ?_))
def spec_l09Draw.T18 : Bool × List (List Nat × List Nat) := (true, [([], []), ([], []), ([1], [1]), ([2], [2]), ([0, 3], [0, 3]), ([], []), ([5], [5]), ([6, 6], [6]), ([4, 7], [4, 7]), ([8, 7, 0, 1, 2, 3, 4, 5, 6, 7, 8], [0, 1, 8])])
def spec_l09Draw.B18 : List Nat := [0, 0, 2, 6, 15, 0, 32, 96, 255, 511]
theorem spec_l09Draw.tab18 : rtab .any (opsOf Try.f69 18) = spec_l09Draw.T18 := by kernel_rfl
theorem spec_l09Draw.bits18 : waitsOk spec_l09Draw.T18.2 spec_l09Draw.B18 = true := by kernel_rfl
set_option maxHeartbeats 8000000 in
set_option maxRecDepth 100000 in
theorem spec_l09Draw.calls (k : Nat) (g : Nat) (s0_0 : List Int) (s0_1 : Int) (s0_2 : Int) (r1 : ByteArray) (r2 : ByteArray) (r3 : Int) (r4 : Int) (w0 w : World) (hI : IsS73 w0 w g s0_0 s0_1 s0_2) (hB : Below w0.heap.size w0 w) (h : spec_l09Draw.f k s0_0 s0_1 s0_2 = some (r1, r2, r3, r4)) :
  Calls Try.prog 69 #[.pointer (some ⟨g, 0, none⟩)] w fun e w' => e = .returned (.tuple #[.string r1, .string r2]) ∧ IsS73 w0 w' g s0_0 r3 r4 ∧ Below w0.heap.size w0 w' ∧ KeepBut w w' g none := by
 have HI0 := Aside0.mk hI
 have HK := Aside0.mk (KeepBut.refl w g none)
 have HL := Aside0.mk hB.size
 clear hI
 have HW0 := Aside0.mk hB.size
 have HB := Aside0.mk hB
 clear hB
 have H : ((spec_l01Next.f s0_0 s0_1 s0_2 3).bind fun bt257 => (if bt257.1 = 0 then ((spec_l01Draw.f k s0_0 bt257.2.1 bt257.2.2).bind fun bt260 => ((spec_l01Next.f s0_0 bt260.2.1 bt260.2.2 (wrap64 ((bt260.1.size : Int) + 1))).bind fun bt263 => (if 0 ≤ bt263.1 then (if bt263.1 ≤ (bt260.1.size : Int) then (some (bt260.1, bt260.1.extract 0 (bt263.1 : Int).toNat, bt263.2.1, bt263.2.2)) else (none)) else (none)))) else ((spec_l01Next.f s0_0 bt257.2.1 bt257.2.2 3).bind fun bt266 => ((spec_l01DrawOf.f k s0_0 bt266.2.1 bt266.2.2 (wrap64 (1 + bt266.1)) 2).bind fun bt269 => ((spec_l01Next.f s0_0 bt269.2.1 bt269.2.2 2).bind fun bt272 => ((spec_l01DrawOf.f k s0_0 bt272.2.1 bt272.2.2 bt272.1 2).bind fun bt275 => (if bt269.1.size + bt275.1.size ≤ 9223372036854775807 then (if (bt269.1 ++ bt275.1).size + bt269.1.size ≤ 9223372036854775807 then ((spec_l09Ends.f k ((bt269.1 ++ bt275.1) ++ bt269.1)).bind fun t278 => ((spec_l01Next.f s0_0 bt275.2.1 bt275.2.2 6).bind fun bt281 => (spec_l09Draw.l0 k ((bt269.1 ++ bt275.1) ++ bt269.1) ((bt269.1 ++ bt275.1) ++ bt269.1) t278 bt281.1 s0_0 bt281.2.1 bt281.2.2))) else (none)) else (none)))))))) = some (r1, r2, r3, r4) := h
 clear h
 replace H := Option.bind_eq_some_iff.mp H
 obtain ⟨⟨t257, t258, t259⟩, A20, H⟩ := H
 replace H : (if t257 = 0 then ((spec_l01Draw.f k s0_0 t258 t259).bind fun bt260 => ((spec_l01Next.f s0_0 bt260.2.1 bt260.2.2 (wrap64 ((bt260.1.size : Int) + 1))).bind fun bt263 => (if 0 ≤ bt263.1 then (if bt263.1 ≤ (bt260.1.size : Int) then (some (bt260.1, bt260.1.extract 0 (bt263.1 : Int).toNat, bt263.2.1, bt263.2.2)) else (none)) else (none)))) else ((spec_l01Next.f s0_0 t258 t259 3).bind fun bt266 => ((spec_l01DrawOf.f k s0_0 bt266.2.1 bt266.2.2 (wrap64 (1 + bt266.1)) 2).bind fun bt269 => ((spec_l01Next.f s0_0 bt269.2.1 bt269.2.2 2).bind fun bt272 => ((spec_l01DrawOf.f k s0_0 bt272.2.1 bt272.2.2 bt272.1 2).bind fun bt275 => (if bt269.1.size + bt275.1.size ≤ 9223372036854775807 then (if (bt269.1 ++ bt275.1).size + bt269.1.size ≤ 9223372036854775807 then ((spec_l09Ends.f k ((bt269.1 ++ bt275.1) ++ bt269.1)).bind fun t278 => ((spec_l01Next.f s0_0 bt275.2.1 bt275.2.2 6).bind fun bt281 => (spec_l09Draw.l0 k ((bt269.1 ++ bt275.1) ++ bt269.1) ((bt269.1 ++ bt275.1) ++ bt269.1) t278 bt281.1 s0_0 bt281.2.1 bt281.2.2))) else (none)) else (none))))))) = some (r1, r2, r3, r4) := H
 have A2 := Aside0.mk A20
 clear A20
 by_cases c3 : t257 = 0
 ·
  rw [if_pos c3] at H
  have c3b0 : (t257 == 0) = true := beq_iff_eq.mpr c3
  have c3b1 : (t257 != 0) = false := bne_eq_false_iff_eq.mpr c3
  clear c3
  replace H := Option.bind_eq_some_iff.mp H
  obtain ⟨⟨t260, t261, t262⟩, A40, H⟩ := H
  replace H : ((spec_l01Next.f s0_0 t261 t262 (wrap64 ((t260.size : Int) + 1))).bind fun bt263 => (if 0 ≤ bt263.1 then (if bt263.1 ≤ (t260.size : Int) then (some (t260, t260.extract 0 (bt263.1 : Int).toNat, bt263.2.1, bt263.2.2)) else (none)) else (none))) = some (r1, r2, r3, r4) := H
  have A4 := Aside0.mk A40
  clear A40
  replace H := Option.bind_eq_some_iff.mp H
  obtain ⟨⟨t263, t264, t265⟩, A50, H⟩ := H
  replace H : (if 0 ≤ t263 then (if t263 ≤ (t260.size : Int) then (some (t260, t260.extract 0 (t263 : Int).toNat, t264, t265)) else (none)) else (none)) = some (r1, r2, r3, r4) := H
  have A5 := Aside0.mk A50
  clear A50
  by_cases c6 : 0 ≤ t263
  ·
   rw [if_pos c6] at H
   have c6b0 := eq_true c6
   have c6b1 : decide (0 ≤ t263) = true := decide_eq_true c6
   clear c6
   by_cases c7 : t263 ≤ (t260.size : Int)
   ·
    rw [if_pos c7] at H
    have c7b0 := eq_true c7
    have c7b1 : decide (t263 ≤ (t260.size : Int)) = true := decide_eq_true c7
    clear c7
    simp only [Option.some.injEq, Prod.mk.injEq] at H
    obtain ⟨rfl, rfl, rfl, rfl⟩ := H
    go_enter Try.func69, Try.ntmps69
    try go_wp2_with (first | ((with_reducible refine gate_callee (f := 42) rfl ?_); refine goesL_ (some 11) rfl rfl Try.func42 (by kernel_rfl) rfl #[.pointer (some ⟨g, 0, none⟩), .int .i64 3] rfl qV ?_; (with_reducible refine (spec_l01Next.calls g s0_0 s0_1 s0_2 3 t257 t258 t259 w0 _ ?side1 ?side2 A2.out).mono ?_); (case side1 => exact qI HI0.out); (case side2 => exact qS HB.out); rintro e w8 ⟨rfl, hi, hb, hk⟩; refine ⟨_, rfl, ?_⟩; have n0_ := Aside0.mk (KeepBut.trans (qK HK.out) hk (.inl rfl)); have n1_ := Aside0.mk (hb); have n2_ := Aside0.mk (hi); clear HK; clear HB; clear HI0; have HK := n0_; have HB := n1_; have HI0 := n2_; clear n0_ n1_ n2_) | ((with_reducible refine gate_callee (f := 80) rfl ?_); refine goesL_ (some 14) rfl rfl Try.func80 (by kernel_rfl) rfl #[.pointer (some ⟨g, 0, none⟩)] rfl qV ?_; (with_reducible refine (spec_l01Draw.calls k g s0_0 t258 t259 t260 t261 t262 w0 _ ?side1 ?side2 A4.out).mono ?_); (case side1 => exact qI HI0.out); (case side2 => exact qS HB.out); rintro e w9 ⟨rfl, hi, hb, hk⟩; refine ⟨_, rfl, ?_⟩; have n0_ := Aside0.mk (KeepBut.trans (qK HK.out) hk (.inl rfl)); have n1_ := Aside0.mk (hb); have n2_ := Aside0.mk (hi); clear HK; clear HB; clear HI0; have HK := n0_; have HB := n1_; have HI0 := n2_; clear n0_ n1_ n2_) | ((with_reducible refine gate_callee (f := 42) rfl ?_); refine goesL_ (some 19) rfl rfl Try.func42 (by kernel_rfl) rfl #[.pointer (some ⟨g, 0, none⟩), .int .i64 (wrap64 ((t260.size : Int) + 1))] rfl qV ?_; (with_reducible refine (spec_l01Next.calls g s0_0 t261 t262 (wrap64 ((t260.size : Int) + 1)) t263 t264 t265 w0 _ ?side1 ?side2 A5.out).mono ?_); (case side1 => exact qI HI0.out); (case side2 => exact qS HB.out); rintro e w10 ⟨rfl, hi, hb, hk⟩; refine ⟨_, rfl, ?_⟩; have n0_ := Aside0.mk (KeepBut.trans (qK HK.out) hk (.inl rfl)); have n1_ := Aside0.mk (hb); have n2_ := Aside0.mk (hi); clear HK; clear HB; clear HI0; have HK := n0_; have HB := n1_; have HI0 := n2_; clear n0_ n1_ n2_))
    have n0_ := Aside0.mk (IsS73.drew HI0.out)
    have n1_ := Aside0.mk (keep_drew HK.out)
    have n2_ := Aside0.mk (below_drew1 HB.out)
    clear HI0
    clear HK
    clear HB
    have HI0 := n0_
    have HK := n1_
    have HB := n2_
    clear n0_ n1_ n2_
    refine start_ (n := 6) (S := fun w' => True) (ds := []) #[false, false, false, false, false, false] (by kernel_rfl) rfl rfl trivial (fun hHeld => ?_)
    generalize w10.drew = w11 at HI0 HK HB hHeld ⊢
    refine pure_ (i := 0) (N := some 20) (v := ?_) (a' := ?_) #[true, false, false, false, false, false] rfl rfl (by kernel_rfl) (fun _ _ _ h => h) (Or.inl ⟨by rfl, ?_⟩) ?_ ?_
    rotate_left
    ·
     intro w'
     go_simp
     with_reducible rfl
    rotate_left
    ·
     simp only [Act.put, List.setIfInBounds_toArray, List.set_cons_zero, List.set_cons_succ, i64_w, i32_w]
     rfl
    refine pure_ (i := 1) (N := some 21) (v := ?_) (a' := ?_) #[true, true, false, false, false, false] rfl rfl (by kernel_rfl) (fun _ _ _ h => h) (Or.inl ⟨by rfl, ?_⟩) ?_ ?_
    rotate_left
    ·
     intro w'
     go_simp
     with_reducible rfl
    rotate_left
    ·
     simp only [Act.put, List.setIfInBounds_toArray, List.set_cons_zero, List.set_cons_succ, i64_w, i32_w]
     rfl
    refine pure_ (i := 2) (N := some 22) (v := ?_) (a' := ?_) #[true, true, true, false, false, false] rfl rfl (by kernel_rfl) (fun _ _ _ h => h) (Or.inl ⟨by rfl, ?_⟩) ?_ ?_
    rotate_left
    ·
     intro w'
     go_simp
     with_reducible rfl
    rotate_left
    ·
     simp only [Act.put, List.setIfInBounds_toArray, List.set_cons_zero, List.set_cons_succ, i64_w, i32_w]
     rfl
    refine pure_ (i := 3) (N := some 23) (v := ?_) (a' := ?_) #[true, true, true, true, false, false] rfl rfl (by kernel_rfl) (fun _ _ _ h => h) (Or.inl ⟨by rfl, ?_⟩) ?_ ?_
    rotate_left
    ·
     intro w'
     go_simp
     with_reducible rfl
    rotate_left
    ·
     simp only [Act.put, List.setIfInBounds_toArray, List.set_cons_zero, List.set_cons_succ, i64_w, i32_w]
     rfl
    refine pure_ (i := 4) (N := some 2) (v := ?_) (a' := ?_) #[true, true, true, true, true, false] rfl rfl (by kernel_rfl) (fun _ _ _ h => h) (Or.inl ⟨by rfl, ?_⟩) ?_ ?_
    rotate_left
    ·
     intro w'
     go_simp
     with_reducible rfl
    rotate_left
    ·
     simp only [Act.put, List.setIfInBounds_toArray, List.set_cons_zero, List.set_cons_succ, i64_w, i32_w]
     rfl
    refine pure_ (i := 5) (N := some 3) (v := ?_) (a' := ?_) #[true, true, true, true, true, true] rfl rfl (by kernel_rfl) (fun _ _ _ h => h) (Or.inl ⟨by rfl, ?_⟩) ?_ ?_
    rotate_left
    ·
     intro w'
     go_simp
     with_reducible rfl
    rotate_left
    ·
     simp only [Act.put, List.setIfInBounds_toArray, List.set_cons_zero, List.set_cons_succ, i64_w, i32_w]
     rfl
    refine done_ (by kernel_rfl) ?_
    try go_wp2
    go_ret2
    exact ⟨qE, qI HI0.out, qS HB.out, qK HK.out⟩
   ·
    rw [if_neg c7] at H
    exact absurd H (by simp)
  ·
   rw [if_neg c6] at H
   exact absurd H (by simp)
 ·
  rw [if_neg c3] at H
  have c3b0 : (t257 == 0) = false := beq_eq_false_iff_ne.mpr c3
  have c3b1 : (t257 != 0) = true := bne_iff_ne.mpr c3
  replace H := Option.bind_eq_some_iff.mp H
  obtain ⟨⟨t266, t267, t268⟩, A120, H⟩ := H
  replace H : ((spec_l01DrawOf.f k s0_0 t267 t268 (wrap64 (1 + t266)) 2).bind fun bt269 => ((spec_l01Next.f s0_0 bt269.2.1 bt269.2.2 2).bind fun bt272 => ((spec_l01DrawOf.f k s0_0 bt272.2.1 bt272.2.2 bt272.1 2).bind fun bt275 => (if bt269.1.size + bt275.1.size ≤ 9223372036854775807 then (if (bt269.1 ++ bt275.1).size + bt269.1.size ≤ 9223372036854775807 then ((spec_l09Ends.f k ((bt269.1 ++ bt275.1) ++ bt269.1)).bind fun t278 => ((spec_l01Next.f s0_0 bt275.2.1 bt275.2.2 6).bind fun bt281 => (spec_l09Draw.l0 k ((bt269.1 ++ bt275.1) ++ bt269.1) ((bt269.1 ++ bt275.1) ++ bt269.1) t278 bt281.1 s0_0 bt281.2.1 bt281.2.2))) else (none)) else (none))))) = some (r1, r2, r3, r4) := H
  have A12 := Aside0.mk A120
  clear A120
  replace H := Option.bind_eq_some_iff.mp H
  obtain ⟨⟨t269, t270, t271⟩, A130, H⟩ := H
  replace H : ((spec_l01Next.f s0_0 t270 t271 2).bind fun bt272 => ((spec_l01DrawOf.f k s0_0 bt272.2.1 bt272.2.2 bt272.1 2).bind fun bt275 => (if t269.size + bt275.1.size ≤ 9223372036854775807 then (if (t269 ++ bt275.1).size + t269.size ≤ 9223372036854775807 then ((spec_l09Ends.f k ((t269 ++ bt275.1) ++ t269)).bind fun t278 => ((spec_l01Next.f s0_0 bt275.2.1 bt275.2.2 6).bind fun bt281 => (spec_l09Draw.l0 k ((t269 ++ bt275.1) ++ t269) ((t269 ++ bt275.1) ++ t269) t278 bt281.1 s0_0 bt281.2.1 bt281.2.2))) else (none)) else (none)))) = some (r1, r2, r3, r4) := H
  have A13 := Aside0.mk A130
  clear A130
  replace H := Option.bind_eq_some_iff.mp H
  obtain ⟨⟨t272, t273, t274⟩, A140, H⟩ := H
  replace H : ((spec_l01DrawOf.f k s0_0 t273 t274 t272 2).bind fun bt275 => (if t269.size + bt275.1.size ≤ 9223372036854775807 then (if (t269 ++ bt275.1).size + t269.size ≤ 9223372036854775807 then ((spec_l09Ends.f k ((t269 ++ bt275.1) ++ t269)).bind fun t278 => ((spec_l01Next.f s0_0 bt275.2.1 bt275.2.2 6).bind fun bt281 => (spec_l09Draw.l0 k ((t269 ++ bt275.1) ++ t269) ((t269 ++ bt275.1) ++ t269) t278 bt281.1 s0_0 bt281.2.1 bt281.2.2))) else (none)) else (none))) = some (r1, r2, r3, r4) := H
  have A14 := Aside0.mk A140
  clear A140
  replace H := Option.bind_eq_some_iff.mp H
  obtain ⟨⟨t275, t276, t277⟩, A150, H⟩ := H
  replace H : (if t269.size + t275.size ≤ 9223372036854775807 then (if (t269 ++ t275).size + t269.size ≤ 9223372036854775807 then ((spec_l09Ends.f k ((t269 ++ t275) ++ t269)).bind fun t278 => ((spec_l01Next.f s0_0 t276 t277 6).bind fun bt281 => (spec_l09Draw.l0 k ((t269 ++ t275) ++ t269) ((t269 ++ t275) ++ t269) t278 bt281.1 s0_0 bt281.2.1 bt281.2.2))) else (none)) else (none)) = some (r1, r2, r3, r4) := H
  have A15 := Aside0.mk A150
  clear A150
  by_cases c16 : t269.size + t275.size ≤ 9223372036854775807
  ·
   rw [if_pos c16] at H
   have c16b0 := eq_true c16
   have c16b1 : decide (t269.size + t275.size ≤ 9223372036854775807) = true := decide_eq_true c16
   try have c16b2 : (9223372036854775807 < t269.size + t275.size) = False := eq_false (Nat.not_lt.2 c16)
   by_cases c17 : (t269 ++ t275).size + t269.size ≤ 9223372036854775807
   ·
    rw [if_pos c17] at H
    have c17b0 := eq_true c17
    have c17b1 : decide ((t269 ++ t275).size + t269.size ≤ 9223372036854775807) = true := decide_eq_true c17
    have c17y := c17
    try simp only [ByteArray.size_append] at c17y
    try have c17y0 := eq_true c17y
    try have c17y2 := eq_false (Nat.not_lt.2 c17y)
    clear c17y
    try have c17b2 : (9223372036854775807 < (t269 ++ t275).size + t269.size) = False := eq_false (Nat.not_lt.2 c17)
    replace H := Option.bind_eq_some_iff.mp H
    obtain ⟨t278, A180, H⟩ := H
    replace H : ((spec_l01Next.f s0_0 t276 t277 6).bind fun bt281 => (spec_l09Draw.l0 k ((t269 ++ t275) ++ t269) ((t269 ++ t275) ++ t269) t278 bt281.1 s0_0 bt281.2.1 bt281.2.2)) = some (r1, r2, r3, r4) := H
    have A18 := Aside0.mk A180
    clear A180
    replace H := Option.bind_eq_some_iff.mp H
    obtain ⟨⟨t281, t282, t283⟩, A190, H⟩ := H
    replace H : (spec_l09Draw.l0 k ((t269 ++ t275) ++ t269) ((t269 ++ t275) ++ t269) t278 t281 s0_0 t282 t283) = some (r1, r2, r3, r4) := H
    have A19 := Aside0.mk A190
    clear A190
    have HC20 := Aside0.mk H
    clear H
    go_enter Try.func69, Try.ntmps69
    go_upto_block 0 with (first | ((with_reducible refine gate_callee (f := 42) rfl ?_); refine goesL_ (some 11) rfl rfl Try.func42 (by kernel_rfl) rfl #[.pointer (some ⟨g, 0, none⟩), .int .i64 3] rfl qV ?_; (with_reducible refine (spec_l01Next.calls g s0_0 s0_1 s0_2 3 t257 t258 t259 w0 _ ?side1 ?side2 A2.out).mono ?_); (case side1 => exact qI HI0.out); (case side2 => exact qS HB.out); rintro e w21 ⟨rfl, hi, hb, hk⟩; refine ⟨_, rfl, ?_⟩; have n0_ := Aside0.mk (KeepBut.trans (qK HK.out) hk (.inl rfl)); have n1_ := Aside0.mk (hb); have n2_ := Aside0.mk (hi); clear HK; clear HB; clear HI0; have HK := n0_; have HB := n1_; have HI0 := n2_; clear n0_ n1_ n2_) | ((with_reducible refine gate_callee (f := 42) rfl ?_); refine goesL_ (some 26) rfl rfl Try.func42 (by kernel_rfl) rfl #[.pointer (some ⟨g, 0, none⟩), .int .i64 3] rfl qV ?_; (with_reducible refine (spec_l01Next.calls g s0_0 t258 t259 3 t266 t267 t268 w0 _ ?side1 ?side2 A12.out).mono ?_); (case side1 => exact qI HI0.out); (case side2 => exact qS HB.out); rintro e w22 ⟨rfl, hi, hb, hk⟩; refine ⟨_, rfl, ?_⟩; have n0_ := Aside0.mk (KeepBut.trans (qK HK.out) hk (.inl rfl)); have n1_ := Aside0.mk (hb); have n2_ := Aside0.mk (hi); clear HK; clear HB; clear HI0; have HK := n0_; have HB := n1_; have HI0 := n2_; clear n0_ n1_ n2_) | ((with_reducible refine gate_callee (f := 41) rfl ?_); refine goesL_ (some 28) rfl rfl Try.func41 (by kernel_rfl) rfl #[.pointer (some ⟨g, 0, none⟩), .int .i64 (wrap64 (1 + t266)), .int .i64 2] rfl qV ?_; (with_reducible refine (spec_l01DrawOf.calls k g s0_0 t267 t268 (wrap64 (1 + t266)) 2 t269 t270 t271 w0 _ ?side1 ?side2 A13.out).mono ?_); (case side1 => exact qI HI0.out); (case side2 => exact qS HB.out); rintro e w23 ⟨rfl, hi, hb, hk⟩; refine ⟨_, rfl, ?_⟩; have n0_ := Aside0.mk (KeepBut.trans (qK HK.out) hk (.inl rfl)); have n1_ := Aside0.mk (hb); have n2_ := Aside0.mk (hi); clear HK; clear HB; clear HI0; have HK := n0_; have HB := n1_; have HI0 := n2_; clear n0_ n1_ n2_) | ((with_reducible refine gate_callee (f := 42) rfl ?_); refine goesL_ (some 32) rfl rfl Try.func42 (by kernel_rfl) rfl #[.pointer (some ⟨g, 0, none⟩), .int .i64 2] rfl qV ?_; (with_reducible refine (spec_l01Next.calls g s0_0 t270 t271 2 t272 t273 t274 w0 _ ?side1 ?side2 A14.out).mono ?_); (case side1 => exact qI HI0.out); (case side2 => exact qS HB.out); rintro e w24 ⟨rfl, hi, hb, hk⟩; refine ⟨_, rfl, ?_⟩; have n0_ := Aside0.mk (KeepBut.trans (qK HK.out) hk (.inl rfl)); have n1_ := Aside0.mk (hb); have n2_ := Aside0.mk (hi); clear HK; clear HB; clear HI0; have HK := n0_; have HB := n1_; have HI0 := n2_; clear n0_ n1_ n2_) | ((with_reducible refine gate_callee (f := 41) rfl ?_); refine goesL_ (some 33) rfl rfl Try.func41 (by kernel_rfl) rfl #[.pointer (some ⟨g, 0, none⟩), .int .i64 t272, .int .i64 2] rfl qV ?_; (with_reducible refine (spec_l01DrawOf.calls k g s0_0 t273 t274 t272 2 t275 t276 t277 w0 _ ?side1 ?side2 A15.out).mono ?_); (case side1 => exact qI HI0.out); (case side2 => exact qS HB.out); rintro e w25 ⟨rfl, hi, hb, hk⟩; refine ⟨_, rfl, ?_⟩; have n0_ := Aside0.mk (KeepBut.trans (qK HK.out) hk (.inl rfl)); have n1_ := Aside0.mk (hb); have n2_ := Aside0.mk (hi); clear HK; clear HB; clear HI0; have HK := n0_; have HB := n1_; have HI0 := n2_; clear n0_ n1_ n2_) | ((with_reducible refine gate_callee (f := 43) rfl ?_); refine goesL_ (some 39) rfl rfl Try.func43 (by kernel_rfl) rfl #[.string ((t269 ++ t275) ++ t269)] rfl qV ?_; (with_reducible refine (spec_l09Ends.calls k ((t269 ++ t275) ++ t269) t278 _ A18.out).mono ?_); rintro e w26 ⟨v279, rfl, ho0, hb⟩; refine ⟨_, rfl, ?_⟩; have n0_ := Aside0.mk (Kd.R_lower ho0 (keep_size (w := w) (g := g) (row := none) (qK HK.out))); have n1_ := Aside0.mk (IsS73.below (qI HI0.out) hb); have n2_ := Aside0.mk (KeepBut.trans (qK HK.out) (KeepBut.of_below hb g none) (.inl rfl)); have n3_ := Aside0.mk (below_step (qS HB.out) hb); clear HI0; clear HK; clear HB; have HO280 := n0_; have HI0 := n1_; have HK := n2_; have HB := n3_; clear n0_ n1_ n2_ n3_) | ((with_reducible refine gate_callee (f := 42) rfl ?_); refine goesL_ (some 41) rfl rfl Try.func42 (by kernel_rfl) rfl #[.pointer (some ⟨g, 0, none⟩), .int .i64 6] rfl qV ?_; (with_reducible refine (spec_l01Next.calls g s0_0 t276 t277 6 t281 t282 t283 w0 _ ?side1 ?side2 A19.out).mono ?_); (case side1 => exact qI HI0.out); (case side2 => exact qS HB.out); rintro e w27 ⟨rfl, hi, hb, hk⟩; refine ⟨_, rfl, ?_⟩; have n0_ := Aside0.mk (Kd.R_mono (Kd.R_keep (IsS73.apart (show IsS73 w0 _ g s0_0 t276 t277 from qI HI0.out) (qR HO280.out) (by decide)) hk (fun _ h => h.2)) (fun _ h => h.1)); have n1_ := Aside0.mk (KeepBut.trans (qK HK.out) hk (.inl rfl)); have n2_ := Aside0.mk (hb); have n3_ := Aside0.mk (hi); clear HO280; clear HK; clear HB; clear HI0; have HO280 := n0_; have HK := n1_; have HB := n2_; have HI0 := n3_; clear n0_ n1_ n2_ n3_))
    (try simp only [Act.put, List.setIfInBounds_toArray, List.set_cons_zero, List.set_cons_succ])
    go_cut [7] (fun v7 wc => ∃ (kq : Nat) (x7_19 : ByteArray) (x1001_19 : Int) (x1002_19 : Int), v7 = .string x7_19 ∧ Aside0 (spec_l09Draw.j1 kq ((t269 ++ t275) ++ t269) x7_19 s0_0 x1001_19 x1002_19 = some (r1, r2, r3, r4)) ∧ Aside0 (kq ≤ k) ∧ Aside0 (IsS73 w0 wc g s0_0 x1001_19 x1002_19) ∧ Aside0 (KeepBut w wc g none) ∧ Aside0 (Below w0.heap.size w0 wc))
    case first =>
     have H := HC20.out
     clear HC20
     have H' := Aside0.mk H
     clear H
     go_wp2
     go_loopg [7, 9] k (fun kq v7 v9 w' => ∃ (x7_1 : ByteArray) (x9_1 : Int) (x1001_1 : Int) (x1002_1 : Int), v7 = .string x7_1 ∧ v9 = .int .i64 x9_1 ∧ Aside0 (spec_l09Draw.l0 kq ((t269 ++ t275) ++ t269) x7_1 t278 x9_1 s0_0 x1001_1 x1002_1 = some (r1, r2, r3, r4)) ∧ Aside0 (kq ≤ k) ∧ Aside0 (Kd.R (Kd.int .i64) 2 w' w.heap.size (fun _ => True) v279 t278) ∧ Aside0 (IsS73 w0 w' g s0_0 x1001_1 x1002_1) ∧ Aside0 (KeepBut w w' g none) ∧ Aside0 (Below w0.heap.size w0 w'))
     case atStart => exact ⟨((t269 ++ t275) ++ t269), (t281), (t282), (t283), qF, qF, H', ⟨Nat.le_refl _⟩, ⟨qR HO280.out⟩, ⟨qI HI0.out⟩, ⟨qK HK.out⟩, ⟨qS HB.out⟩⟩
     case round =>
      clear H'
      obtain ⟨x7_1, x9_1, x1001_1, x1002_1, rfl, rfl, HA, HK1, HO_8, HI0, HK, HB⟩ := hrel
      cases gk with
      | zero => exact absurd HA.out (by simp [spec_l09Draw.l0])
      | succ k1 =>
       have H := HA.out
       clear HA
       simp only [spec_l09Draw.l0] at H
       by_cases c28 : x9_1 > 0
       ·
        rw [if_pos c28] at H
        have c28b0 : decide (0 < x9_1) = true := decide_eq_true c28
        clear c28
        (first | rw [c28b0] | (simp only [i64_w, i32_w]; rw [c28b0]) | skip)
        by_cases c29 : (x7_1.size : Int) < 48
        ·
         rw [if_pos c29] at H
         have c29b0 : decide ((x7_1.size : Int) < 48) = true := decide_eq_true c29
         have c29b1 : decide (x7_1.size < 48) = true := decide_eq_true (by omega)
         clear c29
         replace H := Option.bind_eq_some_iff.mp H
         obtain ⟨⟨t284, t285, t286⟩, A300, H⟩ := H
         replace H : (if 0 ≤ t284 then (if t284 < (t278.length : Int) then (if 0 ≤ (rd t278 t284) then (if (rd t278 t284) ≤ (((t269 ++ t275) ++ t269).size : Int) then (if x7_1.size + (((t269 ++ t275) ++ t269).extract ((rd t278 t284) : Int).toNat ((t269 ++ t275) ++ t269).size).size ≤ 9223372036854775807 then (spec_l09Draw.l0 k1 ((t269 ++ t275) ++ t269) (x7_1 ++ (((t269 ++ t275) ++ t269).extract ((rd t278 t284) : Int).toNat ((t269 ++ t275) ++ t269).size)) t278 (wrap64 (x9_1 - 1)) s0_0 t285 t286) else (none)) else (none)) else (none)) else (none)) else (none)) = some (r1, r2, r3, r4) := H
         have A30 := Aside0.mk A300
         clear A300
         by_cases c31 : 0 ≤ t284
         ·
          rw [if_pos c31] at H
          have c31b0 : decide (0 ≤ t284) = true := decide_eq_true c31
          clear c31
          by_cases c32 : t284 < (t278.length : Int)
          ·
           rw [if_pos c32] at H
           have c32b0 : decide (t284 < (t278.length : Int)) = true := decide_eq_true c32
           clear c32
           by_cases c33 : 0 ≤ (rd t278 t284)
           ·
            rw [if_pos c33] at H
            have c33b0 := eq_true c33
            have c33b1 : decide (0 ≤ (rd t278 t284)) = true := decide_eq_true c33
            clear c33
            by_cases c34 : (rd t278 t284) ≤ (((t269 ++ t275) ++ t269).size : Int)
            ·
             rw [if_pos c34] at H
             have c34b0 := eq_true c34
             have c34b1 : decide ((rd t278 t284) ≤ (((t269 ++ t275) ++ t269).size : Int)) = true := decide_eq_true c34
             by_cases c35 : x7_1.size + (((t269 ++ t275) ++ t269).extract ((rd t278 t284) : Int).toNat ((t269 ++ t275) ++ t269).size).size ≤ 9223372036854775807
             ·
              rw [if_pos c35] at H
              have c35b0 := eq_true c35
              have c35b1 : decide (x7_1.size + (((t269 ++ t275) ++ t269).extract ((rd t278 t284) : Int).toNat ((t269 ++ t275) ++ t269).size).size ≤ 9223372036854775807) = true := decide_eq_true c35
              try have c35b2 : (9223372036854775807 < x7_1.size + (((t269 ++ t275) ++ t269).extract ((rd t278 t284) : Int).toNat ((t269 ++ t275) ++ t269).size).size) = False := eq_false (Nat.not_lt.2 c35)
              have c34y1 : ((rd t278 t284) ≤ ((t269.size : Int) + (t275.size : Int) + (t269.size : Int))) = True := eq_true (by have h_ := c34; rw [ByteArray.size_append, ByteArray.size_append] at h_; omega)
              have c34y2 : (((t269.size : Int) + (t275.size : Int) + (t269.size : Int)) < (rd t278 t284)) = False := eq_false (by have h_ := c34; rw [ByteArray.size_append, ByteArray.size_append] at h_; omega)
              have c35y1 : (9223372036854775807 < x7_1.size + (t269.size + t275.size + t269.size - (rd t278 t284).toNat)) = False := eq_false (by have h_ := c35; simp only [ByteArray.size_extract, ByteArray.size_append] at h_; omega)
              have H' := Aside0.mk H
              clear H
              obtain ⟨Ao36, co36, eo36⟩ := Kd.R_slice HO_8.out
              subst eo36
              go_wp2_with (first | ((with_reducible refine gate_callee (f := 42) rfl ?_); refine goesL_ (some 57) rfl rfl Try.func42 (by kernel_rfl) rfl #[.pointer (some ⟨g, 0, none⟩), .int .i64 (t278.length : Int)] rfl qV ?_; (with_reducible refine (spec_l01Next.calls g s0_0 x1001_1 x1002_1 (t278.length : Int) t284 t285 t286 w0 _ ?side1 ?side2 A30.out).mono ?_); (case side1 => exact qI HI0.out); (case side2 => exact qS HB.out); rintro e w37 ⟨rfl, hi, hb, hk⟩; refine ⟨_, rfl, ?_⟩; have n0_ := Aside0.mk (Kd.R_mono (Kd.R_keep (IsS73.apart (show IsS73 w0 _ g s0_0 x1001_1 x1002_1 from qI HI0.out) (qR HO_8.out) (by decide)) hk (fun _ h => h.2)) (fun _ h => h.1)); have n1_ := Aside0.mk (KeepBut.trans (qK HK.out) hk (.inl rfl)); have n2_ := Aside0.mk (hb); have n3_ := Aside0.mk (hi); clear HO_8; clear HK; clear HB; clear HI0; have HO_8 := n0_; have HK := n1_; have HB := n2_; have HI0 := n3_; clear n0_ n1_ n2_ n3_; have p287 : 0 ≤ (t284 : Int) := of_decide_eq_true (by first | (with_reducible assumption) | assumption); have q287 : t284 < (t278.length : Int) := of_decide_eq_true (by first | (with_reducible assumption) | assumption); obtain ⟨ad287, e287, hx287_0⟩ := Kd.at_int (Kd.R_reads' HO_8.out).2.2 t284 p287 q287; cases e287; replace p287 := eq_true p287; replace q287 := eq_true q287))
              go_roundg k1
              case measure => have := HK1.out; omega
              case rel => exact ⟨(x7_1 ++ (((t269 ++ t275) ++ t269).extract ((rd t278 t284) : Int).toNat ((t269 ++ t275) ++ t269).size)), (wrap64 (x9_1 - 1)), (t285), (t286), qF, qF, H', ⟨by have := HK1.out; omega⟩, ⟨qR HO_8.out⟩, ⟨qI HI0.out⟩, ⟨qK HK.out⟩, ⟨qS HB.out⟩⟩
             ·
              rw [if_neg c35] at H
              exact absurd H (by simp)
            ·
             rw [if_neg c34] at H
             exact absurd H (by simp)
           ·
            rw [if_neg c33] at H
            exact absurd H (by simp)
          ·
           rw [if_neg c32] at H
           exact absurd H (by simp)
         ·
          rw [if_neg c31] at H
          exact absurd H (by simp)
        ·
         rw [if_neg c29] at H
         have c29b0 : decide ((x7_1.size : Int) < 48) = false := decide_eq_false c29
         have c29b1 : decide (x7_1.size < 48) = false := decide_eq_false (by omega)
         clear c29
         have H' := Aside0.mk H
         clear H
         go_wp2
         go_meet
         case rel => exact ⟨_, (x7_1), (x1001_1), (x1002_1), qF, H', ⟨by have := HK1.out; first | omega | exact Nat.le_refl _⟩, ⟨qI HI0.out⟩, ⟨qK HK.out⟩, ⟨qS HB.out⟩⟩
       ·
        rw [if_neg c28] at H
        have c28b0 : decide (0 < x9_1) = false := decide_eq_false c28
        clear c28
        (first | rw [c28b0] | (simp only [i64_w, i32_w]; rw [c28b0]) | skip)
        have H' := Aside0.mk H
        clear H
        go_wp2
        go_meet
        case rel => exact ⟨_, (x7_1), (x1001_1), (x1002_1), qF, H', ⟨by have := HK1.out; first | omega | exact Nat.le_refl _⟩, ⟨qI HI0.out⟩, ⟨qK HK.out⟩, ⟨qS HB.out⟩⟩
    case rest =>
     clear HC20
     obtain ⟨kq, x7_19, x1001_19, x1002_19, rfl, HA, HJ19, HI0, HK, HB⟩ := hcut
     cases kq with
     | zero => exact absurd HA.out (by simp [spec_l09Draw.j1])
     | succ kj19 =>
      have H := HA.out
      clear HA
      simp only [spec_l09Draw.j1] at H
      replace H := Option.bind_eq_some_iff.mp H
      obtain ⟨⟨t288, t289, t290⟩, A380, H⟩ := H
      replace H : (if t288 = 0 then ((spec_l01Next.f s0_0 t289 t290 (((t269 ++ t275) ++ t269).size : Int)).bind fun bt291 => (if 0 ≤ bt291.1 then (if bt291.1 ≤ (x7_19.size : Int) then ((spec_l01Next.f s0_0 bt291.2.1 bt291.2.2 4).bind fun bt294 => (if 0 ≤ (mx (wrap64 (((x7_19.extract (bt291.1 : Int).toNat x7_19.size).size : Int) - bt294.1)) 0) then (if (mx (wrap64 (((x7_19.extract (bt291.1 : Int).toNat x7_19.size).size : Int) - bt294.1)) 0) ≤ ((x7_19.extract (bt291.1 : Int).toNat x7_19.size).size : Int) then (some ((x7_19.extract (bt291.1 : Int).toNat x7_19.size).extract 0 ((mx (wrap64 (((x7_19.extract (bt291.1 : Int).toNat x7_19.size).size : Int) - bt294.1)) 0) : Int).toNat, ((t269 ++ t275) ++ t269), bt294.2.1, bt294.2.2)) else (none)) else (none))) else (none)) else (none))) else (if t288 = 1 then (if (x7_19.size : Int) > 2 then ((spec_l01Next.f s0_0 t289 t290 2).bind fun bt297 => (spec_l09Draw.j2 kj19 ((t269 ++ t275) ++ t269) x7_19 (bt297.1 == 0) s0_0 bt297.2.1 bt297.2.2)) else (spec_l09Draw.j2 kj19 ((t269 ++ t275) ++ t269) x7_19 false s0_0 t289 t290)) else (some (x7_19, ((t269 ++ t275) ++ t269), t289, t290)))) = some (r1, r2, r3, r4) := H
      have A38 := Aside0.mk A380
      clear A380
      by_cases c39 : t288 = 0
      ·
       rw [if_pos c39] at H
       have c39b0 : (t288 == 0) = true := beq_iff_eq.mpr c39
       have c39b1 : (t288 != 0) = false := bne_eq_false_iff_eq.mpr c39
       clear c39
       replace H := Option.bind_eq_some_iff.mp H
       obtain ⟨⟨t291, t292, t293⟩, A400, H⟩ := H
       replace H : (if 0 ≤ t291 then (if t291 ≤ (x7_19.size : Int) then ((spec_l01Next.f s0_0 t292 t293 4).bind fun bt294 => (if 0 ≤ (mx (wrap64 (((x7_19.extract (t291 : Int).toNat x7_19.size).size : Int) - bt294.1)) 0) then (if (mx (wrap64 (((x7_19.extract (t291 : Int).toNat x7_19.size).size : Int) - bt294.1)) 0) ≤ ((x7_19.extract (t291 : Int).toNat x7_19.size).size : Int) then (some ((x7_19.extract (t291 : Int).toNat x7_19.size).extract 0 ((mx (wrap64 (((x7_19.extract (t291 : Int).toNat x7_19.size).size : Int) - bt294.1)) 0) : Int).toNat, ((t269 ++ t275) ++ t269), bt294.2.1, bt294.2.2)) else (none)) else (none))) else (none)) else (none)) = some (r1, r2, r3, r4) := H
       have A40 := Aside0.mk A400
       clear A400
       by_cases c41 : 0 ≤ t291
       ·
        rw [if_pos c41] at H
        have c41b0 := eq_true c41
        have c41b1 : decide (0 ≤ t291) = true := decide_eq_true c41
        clear c41
        by_cases c42 : t291 ≤ (x7_19.size : Int)
        ·
         rw [if_pos c42] at H
         have c42b0 := eq_true c42
         have c42b1 : decide (t291 ≤ (x7_19.size : Int)) = true := decide_eq_true c42
         clear c42
         replace H := Option.bind_eq_some_iff.mp H
         obtain ⟨⟨t294, t295, t296⟩, A430, H⟩ := H
         replace H : (if 0 ≤ (mx (wrap64 (((x7_19.extract (t291 : Int).toNat x7_19.size).size : Int) - t294)) 0) then (if (mx (wrap64 (((x7_19.extract (t291 : Int).toNat x7_19.size).size : Int) - t294)) 0) ≤ ((x7_19.extract (t291 : Int).toNat x7_19.size).size : Int) then (some ((x7_19.extract (t291 : Int).toNat x7_19.size).extract 0 ((mx (wrap64 (((x7_19.extract (t291 : Int).toNat x7_19.size).size : Int) - t294)) 0) : Int).toNat, ((t269 ++ t275) ++ t269), t295, t296)) else (none)) else (none)) = some (r1, r2, r3, r4) := H
         have A43 := Aside0.mk A430
         clear A430
         obtain ⟨ji44, hji44⟩ : ∃ j_ : Int, (mx (wrap64 (((x7_19.extract (t291 : Int).toNat x7_19.size).size : Int) - t294)) 0) = j_ := ⟨_, rfl⟩
         replace H : (if 0 ≤ (ji44) then (if (ji44) ≤ ((x7_19.extract (t291 : Int).toNat x7_19.size).size : Int) then (some ((x7_19.extract (t291 : Int).toNat x7_19.size).extract 0 ((ji44) : Int).toNat, ((t269 ++ t275) ++ t269), t295, t296)) else (none)) else (none)) = some (r1, r2, r3, r4) := by first | (rw [hji44] at H; exact H) | (simp only [hji44] at H ⊢; exact H)
         (try rw [hji44] at A38)
         (try rw [hji44] at A40)
         (try rw [hji44] at A43)
         have hji44_ : (if (wrap64 (((x7_19.extract (t291 : Int).toNat x7_19.size).size : Int) - t294)) < 0 then 0 else (wrap64 (((x7_19.extract (t291 : Int).toNat x7_19.size).size : Int) - t294))) = ji44 := hji44
         by_cases c45 : 0 ≤ (ji44)
         ·
          rw [if_pos c45] at H
          have c45b0 := eq_true c45
          have c45b1 : decide (0 ≤ (ji44)) = true := decide_eq_true c45
          clear c45
          by_cases c46 : (ji44) ≤ ((x7_19.extract (t291 : Int).toNat x7_19.size).size : Int)
          ·
           rw [if_pos c46] at H
           have c46b0 := eq_true c46
           have c46b1 : decide ((ji44) ≤ ((x7_19.extract (t291 : Int).toNat x7_19.size).size : Int)) = true := decide_eq_true c46
           clear c46
           have hsz_ : (x7_19.extract (t291 : Int).toNat x7_19.size).size = x7_19.size - t291.toNat := by rw [ByteArray.size_extract]; omega
           have hcw_ : ji44 ≤ ((x7_19.size - t291.toNat : Nat) : Int) := by have h_ := of_decide_eq_true c46b1; rw [hsz_] at h_; exact h_
           have hcv_ : 0 ≤ ji44 := of_decide_eq_true c45b1
           rw [hsz_] at hji44_
           clear c45b0 c45b1 c46b0 c46b1 hji44
           by_cases cW : wrap64 (((x7_19.size - t291.toNat : Nat) : Int) - t294) < 0
           ·
            rw [if_pos cW] at hji44_
            have hE_ : (x7_19.extract (t291 : Int).toNat x7_19.size).extract 0 ((ji44) : Int).toNat = ByteArray.empty := by rw [← hji44_]; exact ByteArray.ext (by simp)
            rw [hE_] at H
            have cW0 := eq_true cW
            have cW1 : (0 ≤ wrap64 (((x7_19.size - t291.toNat : Nat) : Int) - t294)) = False := eq_false (Int.not_le.2 cW)
            clear cW hE_ hcw_ hcv_ hsz_ hji44_
            simp only [Option.some.injEq, Prod.mk.injEq] at H
            obtain ⟨rfl, rfl, rfl, rfl⟩ := H
            go_wp2_with (first | ((with_reducible refine gate_callee (f := 42) rfl ?_); refine goesL_ (some 63) rfl rfl Try.func42 (by kernel_rfl) rfl #[.pointer (some ⟨g, 0, none⟩), .int .i64 4] rfl qV ?_; (with_reducible refine (spec_l01Next.calls g s0_0 x1001_19 x1002_19 4 t288 t289 t290 w0 _ ?side1 ?side2 A38.out).mono ?_); (case side1 => exact qI HI0.out); (case side2 => exact qS HB.out); rintro e w47 ⟨rfl, hi, hb, hk⟩; refine ⟨_, rfl, ?_⟩; have n0_ := Aside0.mk (KeepBut.trans (qK HK.out) hk (.inl rfl)); have n1_ := Aside0.mk (hb); have n2_ := Aside0.mk (hi); clear HK; clear HB; clear HI0; have HK := n0_; have HB := n1_; have HI0 := n2_; clear n0_ n1_ n2_) | ((with_reducible refine gate_callee (f := 42) rfl ?_); refine goesL_ (some 70) rfl rfl Try.func42 (by kernel_rfl) rfl #[.pointer (some ⟨g, 0, none⟩), .int .i64 (((t269 ++ t275) ++ t269).size : Int)] rfl qV ?_; (with_reducible refine (spec_l01Next.calls g s0_0 t289 t290 (((t269 ++ t275) ++ t269).size : Int) t291 t292 t293 w0 _ ?side1 ?side2 A40.out).mono ?_); (case side1 => exact qI HI0.out); (case side2 => exact qS HB.out); rintro e w48 ⟨rfl, hi, hb, hk⟩; refine ⟨_, rfl, ?_⟩; have n0_ := Aside0.mk (KeepBut.trans (qK HK.out) hk (.inl rfl)); have n1_ := Aside0.mk (hb); have n2_ := Aside0.mk (hi); clear HK; clear HB; clear HI0; have HK := n0_; have HB := n1_; have HI0 := n2_; clear n0_ n1_ n2_) | ((with_reducible refine gate_callee (f := 42) rfl ?_); refine goesL_ (some 76) rfl rfl Try.func42 (by kernel_rfl) rfl #[.pointer (some ⟨g, 0, none⟩), .int .i64 4] rfl qV ?_; (with_reducible refine (spec_l01Next.calls g s0_0 t292 t293 4 t294 t295 t296 w0 _ ?side1 ?side2 A43.out).mono ?_); (case side1 => exact qI HI0.out); (case side2 => exact qS HB.out); rintro e w49 ⟨rfl, hi, hb, hk⟩; refine ⟨_, rfl, ?_⟩; have n0_ := Aside0.mk (KeepBut.trans (qK HK.out) hk (.inl rfl)); have n1_ := Aside0.mk (hb); have n2_ := Aside0.mk (hi); clear HK; clear HB; clear HI0; have HK := n0_; have HB := n1_; have HI0 := n2_; clear n0_ n1_ n2_))
            go_ret2
            exact ⟨by first | rfl | (simp [errW_none, errW_some] <;> rfl) | (simp only [← hji44]; first | rfl | (simp [errW_none, errW_some] <;> rfl)) | (simp [*, errW_none, errW_some] <;> rfl), qI HI0.out, qS HB.out, qK HK.out⟩
           ·
            rw [if_neg cW] at hji44_
            rw [← hji44_] at H hcw_ hcv_
            have cW0 := eq_false cW
            have cW1 := eq_true hcv_
            have cW2 := eq_true hcw_
            clear cW hcw_ hcv_ hsz_ hji44_
            simp only [Option.some.injEq, Prod.mk.injEq] at H
            obtain ⟨rfl, rfl, rfl, rfl⟩ := H
            go_wp2_with (first | ((with_reducible refine gate_callee (f := 42) rfl ?_); refine goesL_ (some 63) rfl rfl Try.func42 (by kernel_rfl) rfl #[.pointer (some ⟨g, 0, none⟩), .int .i64 4] rfl qV ?_; (with_reducible refine (spec_l01Next.calls g s0_0 x1001_19 x1002_19 4 t288 t289 t290 w0 _ ?side1 ?side2 A38.out).mono ?_); (case side1 => exact qI HI0.out); (case side2 => exact qS HB.out); rintro e w47 ⟨rfl, hi, hb, hk⟩; refine ⟨_, rfl, ?_⟩; have n0_ := Aside0.mk (KeepBut.trans (qK HK.out) hk (.inl rfl)); have n1_ := Aside0.mk (hb); have n2_ := Aside0.mk (hi); clear HK; clear HB; clear HI0; have HK := n0_; have HB := n1_; have HI0 := n2_; clear n0_ n1_ n2_) | ((with_reducible refine gate_callee (f := 42) rfl ?_); refine goesL_ (some 70) rfl rfl Try.func42 (by kernel_rfl) rfl #[.pointer (some ⟨g, 0, none⟩), .int .i64 (((t269 ++ t275) ++ t269).size : Int)] rfl qV ?_; (with_reducible refine (spec_l01Next.calls g s0_0 t289 t290 (((t269 ++ t275) ++ t269).size : Int) t291 t292 t293 w0 _ ?side1 ?side2 A40.out).mono ?_); (case side1 => exact qI HI0.out); (case side2 => exact qS HB.out); rintro e w48 ⟨rfl, hi, hb, hk⟩; refine ⟨_, rfl, ?_⟩; have n0_ := Aside0.mk (KeepBut.trans (qK HK.out) hk (.inl rfl)); have n1_ := Aside0.mk (hb); have n2_ := Aside0.mk (hi); clear HK; clear HB; clear HI0; have HK := n0_; have HB := n1_; have HI0 := n2_; clear n0_ n1_ n2_) | ((with_reducible refine gate_callee (f := 42) rfl ?_); refine goesL_ (some 76) rfl rfl Try.func42 (by kernel_rfl) rfl #[.pointer (some ⟨g, 0, none⟩), .int .i64 4] rfl qV ?_; (with_reducible refine (spec_l01Next.calls g s0_0 t292 t293 4 t294 t295 t296 w0 _ ?side1 ?side2 A43.out).mono ?_); (case side1 => exact qI HI0.out); (case side2 => exact qS HB.out); rintro e w49 ⟨rfl, hi, hb, hk⟩; refine ⟨_, rfl, ?_⟩; have n0_ := Aside0.mk (KeepBut.trans (qK HK.out) hk (.inl rfl)); have n1_ := Aside0.mk (hb); have n2_ := Aside0.mk (hi); clear HK; clear HB; clear HI0; have HK := n0_; have HB := n1_; have HI0 := n2_; clear n0_ n1_ n2_))
            go_ret2
            exact ⟨by first | rfl | (simp [errW_none, errW_some] <;> rfl) | (simp only [← hji44]; first | rfl | (simp [errW_none, errW_some] <;> rfl)) | (simp [*, errW_none, errW_some] <;> rfl), qI HI0.out, qS HB.out, qK HK.out⟩
          ·
           rw [if_neg c46] at H
           exact absurd H (by simp)
         ·
          rw [if_neg c45] at H
          exact absurd H (by simp)
        ·
         rw [if_neg c42] at H
         exact absurd H (by simp)
       ·
        rw [if_neg c41] at H
        exact absurd H (by simp)
      ·
       rw [if_neg c39] at H
       have c39b0 : (t288 == 0) = false := beq_eq_false_iff_ne.mpr c39
       have c39b1 : (t288 != 0) = true := bne_iff_ne.mpr c39
       by_cases c50 : t288 = 1
       ·
        rw [if_pos c50] at H
        have c50b0 : (t288 == 1) = true := beq_iff_eq.mpr c50
        have c50b1 : (t288 != 1) = false := bne_eq_false_iff_eq.mpr c50
        clear c50
        have HC51 := Aside0.mk H
        clear H
        go_upto_region 17 with (first | ((with_reducible refine gate_callee (f := 42) rfl ?_); refine goesL_ (some 63) rfl rfl Try.func42 (by kernel_rfl) rfl #[.pointer (some ⟨g, 0, none⟩), .int .i64 4] rfl qV ?_; (with_reducible refine (spec_l01Next.calls g s0_0 x1001_19 x1002_19 4 t288 t289 t290 w0 _ ?side1 ?side2 A38.out).mono ?_); (case side1 => exact qI HI0.out); (case side2 => exact qS HB.out); rintro e w52 ⟨rfl, hi, hb, hk⟩; refine ⟨_, rfl, ?_⟩; have n0_ := Aside0.mk (KeepBut.trans (qK HK.out) hk (.inl rfl)); have n1_ := Aside0.mk (hb); have n2_ := Aside0.mk (hi); clear HK; clear HB; clear HI0; have HK := n0_; have HB := n1_; have HI0 := n2_; clear n0_ n1_ n2_))
        (try simp only [Act.put, List.setIfInBounds_toArray, List.set_cons_zero, List.set_cons_succ])
        go_cut [89] (fun v89 wc => ∃ (kq : Nat) (x89_50 : Bool) (x1001_50 : Int) (x1002_50 : Int), v89 = .bool x89_50 ∧ Aside0 (spec_l09Draw.j2 kq ((t269 ++ t275) ++ t269) x7_19 x89_50 s0_0 x1001_50 x1002_50 = some (r1, r2, r3, r4)) ∧ Aside0 (kq ≤ kj19) ∧ Aside0 (IsS73 w0 wc g s0_0 x1001_50 x1002_50) ∧ Aside0 (KeepBut w wc g none) ∧ Aside0 (Below w0.heap.size w0 wc))
        case first =>
         have H := HC51.out
         clear HC51
         by_cases c53 : (x7_19.size : Int) > 2
         ·
          rw [if_pos c53] at H
          have c53b0 : decide (2 < (x7_19.size : Int)) = true := decide_eq_true c53
          have c53b1 : decide (2 < x7_19.size) = true := decide_eq_true (by omega)
          clear c53
          (first | rw [c53b0] | (simp only [i64_w, i32_w]; rw [c53b0]) | skip)
          replace H := Option.bind_eq_some_iff.mp H
          obtain ⟨⟨t297, t298, t299⟩, A540, H⟩ := H
          replace H : (spec_l09Draw.j2 kj19 ((t269 ++ t275) ++ t269) x7_19 (t297 == 0) s0_0 t298 t299) = some (r1, r2, r3, r4) := H
          have A54 := Aside0.mk A540
          clear A540
          have H' := Aside0.mk H
          clear H
          go_wp2_with (first | (go_at_call 42; (with_reducible refine (spec_l01Next.calls g s0_0 t289 t290 2 t297 t298 t299 w0 _ ?side1 ?side2 A54.out).mono ?_); (case side1 => exact qI HI0.out); (case side2 => exact qS HB.out); rintro e w55 ⟨rfl, hi, hb, hk⟩; have n0_ := Aside0.mk (KeepBut.trans (qK HK.out) hk (.inl rfl)); have n1_ := Aside0.mk (hb); have n2_ := Aside0.mk (hi); clear HK; clear HB; clear HI0; have HK := n0_; have HB := n1_; have HI0 := n2_; clear n0_ n1_ n2_))
          go_meet
          case rel => exact ⟨_, ((t297 == 0)), (t298), (t299), qF, H', ⟨by have := HJ19.out; first | omega | exact Nat.le_refl _⟩, ⟨qI HI0.out⟩, ⟨qK HK.out⟩, ⟨qS HB.out⟩⟩
         ·
          rw [if_neg c53] at H
          have c53b0 : decide (2 < (x7_19.size : Int)) = false := decide_eq_false c53
          have c53b1 : decide (2 < x7_19.size) = false := decide_eq_false (by omega)
          clear c53
          (first | rw [c53b0] | (simp only [i64_w, i32_w]; rw [c53b0]) | skip)
          have H' := Aside0.mk H
          clear H
          go_wp2
          go_meet
          case rel => exact ⟨_, (false), (t289), (t290), qF, H', ⟨by have := HJ19.out; first | omega | exact Nat.le_refl _⟩, ⟨qI HI0.out⟩, ⟨qK HK.out⟩, ⟨qS HB.out⟩⟩
        case rest =>
         clear HC51
         obtain ⟨kq, x89_50, x1001_50, x1002_50, rfl, HA, HJ50, HI0, HK, HB⟩ := hcut
         cases kq with
         | zero => exact absurd HA.out (by simp [spec_l09Draw.j2])
         | succ kj50 =>
          have H := HA.out
          clear HA
          simp only [spec_l09Draw.j2] at H
          by_cases c56 : x89_50 = true
          ·
           subst c56
           have H1 : (if 0 ≤ (wrap64 ((x7_19.size : Int) - 1)) then (if (wrap64 ((x7_19.size : Int) - 1)) ≤ (x7_19.size : Int) then ((spec_l01Next.f s0_0 x1001_50 x1002_50 3).bind fun bt300 => ((spec_l01Letter.f bt300.1).bind fun t303 => (if (x7_19.extract 0 ((wrap64 ((x7_19.size : Int) - 1)) : Int).toNat).size + t303.size ≤ 9223372036854775807 then (some ((x7_19.extract 0 ((wrap64 ((x7_19.size : Int) - 1)) : Int).toNat) ++ t303, ((t269 ++ t275) ++ t269), bt300.2.1, bt300.2.2)) else (none)))) else (none)) else (none)) = some (r1, r2, r3, r4) := by rw [if_pos rfl] at H; exact H
           clear H
           have H := H1
           clear H1
           obtain ⟨ji57, hji57⟩ : ∃ j_ : Int, (wrap64 ((x7_19.size : Int) - 1)) = j_ := ⟨_, rfl⟩
           replace H : (if 0 ≤ (ji57) then (if (ji57) ≤ (x7_19.size : Int) then ((spec_l01Next.f s0_0 x1001_50 x1002_50 3).bind fun bt300 => ((spec_l01Letter.f bt300.1).bind fun t303 => (if (x7_19.extract 0 ((ji57) : Int).toNat).size + t303.size ≤ 9223372036854775807 then (some ((x7_19.extract 0 ((ji57) : Int).toNat) ++ t303, ((t269 ++ t275) ++ t269), bt300.2.1, bt300.2.2)) else (none)))) else (none)) else (none)) = some (r1, r2, r3, r4) := by first | (rw [hji57] at H; exact H) | (simp only [hji57] at H ⊢; exact H)
           have hji57w : (IntKind.i64.wrap ((x7_19.size : Int) - 1)) = ji57 := (i64_w _).trans hji57
           by_cases c58 : 0 ≤ (ji57)
           ·
            rw [if_pos c58] at H
            have c58b0 := eq_true c58
            have c58b1 : decide (0 ≤ (ji57)) = true := decide_eq_true c58
            clear c58
            by_cases c59 : (ji57) ≤ (x7_19.size : Int)
            ·
             rw [if_pos c59] at H
             have c59b0 := eq_true c59
             have c59b1 : decide ((ji57) ≤ (x7_19.size : Int)) = true := decide_eq_true c59
             clear c59
             replace H := Option.bind_eq_some_iff.mp H
             obtain ⟨⟨t300, t301, t302⟩, A600, H⟩ := H
             replace H : ((spec_l01Letter.f t300).bind fun t303 => (if (x7_19.extract 0 ((ji57) : Int).toNat).size + t303.size ≤ 9223372036854775807 then (some ((x7_19.extract 0 ((ji57) : Int).toNat) ++ t303, ((t269 ++ t275) ++ t269), t301, t302)) else (none))) = some (r1, r2, r3, r4) := H
             have A60 := Aside0.mk A600
             clear A600
             replace H := Option.bind_eq_some_iff.mp H
             obtain ⟨t303, A610, H⟩ := H
             replace H : (if (x7_19.extract 0 ((ji57) : Int).toNat).size + t303.size ≤ 9223372036854775807 then (some ((x7_19.extract 0 ((ji57) : Int).toNat) ++ t303, ((t269 ++ t275) ++ t269), t301, t302)) else (none)) = some (r1, r2, r3, r4) := H
             have A61 := Aside0.mk A610
             clear A610
             by_cases c62 : (x7_19.extract 0 ((ji57) : Int).toNat).size + t303.size ≤ 9223372036854775807
             ·
              rw [if_pos c62] at H
              have c62b0 := eq_true c62
              have c62b1 : decide ((x7_19.extract 0 ((ji57) : Int).toNat).size + t303.size ≤ 9223372036854775807) = true := decide_eq_true c62
              try have c62b2 : (9223372036854775807 < (x7_19.extract 0 ((ji57) : Int).toNat).size + t303.size) = False := eq_false (Nat.not_lt.2 c62)
              have c62y1 : (9223372036854775807 < ji57.toNat + t303.size) = False := eq_false (by have h_ := c62; have h2_ : ji57 ≤ (x7_19.size : Int) := of_decide_eq_true (by first | (with_reducible assumption) | assumption); simp only [ByteArray.size_extract] at h_; omega)
              simp only [Option.some.injEq, Prod.mk.injEq] at H
              obtain ⟨rfl, rfl, rfl, rfl⟩ := H
              try go_wp2
              have n0_ := Aside0.mk (IsS73.drew HI0.out)
              have n1_ := Aside0.mk (keep_drew HK.out)
              have n2_ := Aside0.mk (below_drew1 HB.out)
              clear HI0
              clear HK
              clear HB
              have HI0 := n0_
              have HK := n1_
              have HB := n2_
              clear n0_ n1_ n2_
              refine start_ (n := 10) (S := fun w' => True) (ds := []) #[false, false, false, false, false, false, false, false, false, false] (by kernel_rfl) rfl rfl trivial (fun hHeld => ?_); refine with_tabW spec_l09Draw.tab18 spec_l09Draw.bits18 (fun HT_ HW_ => ?_)
              generalize wc.drew = w63 at HI0 HK HB hHeld ⊢
              refine pure_ (i := 0) (N := some 90) (v := ?_) (a' := ?_) #[true, false, false, false, false, false, false, false, false, false] rfl rfl (any_of HT_.out (by kernel_rfl)) (fun _ _ _ h => h) (Or.inl ⟨by rfl, ?_⟩) ?_ ?_
              rotate_left
              ·
               intro w'
               go_simp
               with_reducible rfl
              rotate_left
              ·
               simp only [Act.put, List.setIfInBounds_toArray, List.set_cons_zero, List.set_cons_succ, i64_w, i32_w]
               rfl
              refine pure_ (i := 1) (N := some 91) (v := ?_) (a' := ?_) #[true, true, false, false, false, false, false, false, false, false] rfl rfl (any_of HT_.out (by kernel_rfl)) (fun _ _ _ h => h) (Or.inl ⟨by rfl, ?_⟩) ?_ ?_
              rotate_left
              ·
               intro w'
               go_simp
               with_reducible rfl
              rotate_left
              ·
               simp only [Act.put, List.setIfInBounds_toArray, List.set_cons_zero, List.set_cons_succ, i64_w, i32_w]
               rfl
              refine pure_ (i := 2) (N := some 92) (v := ?_) (a' := ?_) #[true, true, true, false, false, false, false, false, false, false] rfl rfl (any_of HT_.out (by kernel_rfl)) (fun _ _ _ h => h) (Or.inl ⟨by rfl, ?_⟩) ?_ ?_
              rotate_left
              ·
               intro w'
               go_simp
               with_reducible rfl
              rotate_left
              ·
               simp only [Act.put, List.setIfInBounds_toArray, List.set_cons_zero, List.set_cons_succ, i64_w, i32_w]
               rfl
              refine pure_ (i := 3) (N := some 93) (v := ?_) (a' := ?_) #[true, true, true, true, false, false, false, false, false, false] rfl rfl (any_of HT_.out (by kernel_rfl)) (fun _ _ _ h => h) (Or.inl ⟨by rfl, ?_⟩) ?_ ?_
              rotate_left
              ·
               intro w'
               go_simp
               with_reducible rfl
              rotate_left
              ·
               simp only [Act.put, List.setIfInBounds_toArray, List.set_cons_zero, List.set_cons_succ, i64_w, i32_w]
               rfl
              refine pure_ (i := 4) (N := some 94) (v := ?_) (a' := ?_) #[true, true, true, true, true, false, false, false, false, false] rfl rfl (any_of HT_.out (by kernel_rfl)) (fun _ _ _ h => h) (Or.inl ⟨by rfl, ?_⟩) ?_ ?_
              rotate_left
              ·
               intro w'
               go_simp
               with_reducible rfl
              rotate_left
              ·
               simp only [Act.put, List.setIfInBounds_toArray, List.set_cons_zero, List.set_cons_succ, i64_w, i32_w]
               rfl
              refine pure_ (i := 5) (N := some 95) (v := ?_) (a' := ?_) #[true, true, true, true, true, true, false, false, false, false] rfl rfl (any_of HT_.out (by kernel_rfl)) (fun _ _ _ h => h) (Or.inl ⟨by rfl, ?_⟩) ?_ ?_
              rotate_left
              ·
               intro w'
               go_simp
               with_reducible rfl
              rotate_left
              ·
               simp only [Act.put, List.setIfInBounds_toArray, List.set_cons_zero, List.set_cons_succ, i64_w, i32_w]
               rfl
              refine one_ (i := 6) (N := some 96) #[true, true, true, true, true, true, true, false, false, false] rfl rfl (one_of HT_.out (by kernel_rfl)) (by decide) (fun K hK => ?_)
              refine goes_ Try.func42 (by kernel_rfl) rfl #[.pointer (some ⟨g, 0, none⟩), .int .i64 3] (by rfl) rfl rfl qV ?_
              with_reducible refine (spec_l01Next.calls g s0_0 x1001_50 x1002_50 3 t300 t301 t302 w0 _ ?side1 ?side2 A60.out).mono ?_
              (case side1 => exact qI HI0.out)
              (case side2 => exact qS HB.out)
              rintro e w64 ⟨rfl, hi, hb, hk⟩
              refine ⟨_, rfl, ?_⟩
              have n0_ := Aside0.mk (KeepBut.trans (qK HK.out) hk (.inl rfl))
              have n1_ := Aside0.mk (hb)
              have n2_ := Aside0.mk (hi)
              clear HK
              clear HB
              clear HI0
              have HK := n0_
              have HB := n1_
              have HI0 := n2_
              clear n0_ n1_ n2_
              (try clear hb)
              (try clear hb2)
              (try clear hk)
              (try clear hi)
              refine hK.out _ _ trivial (fun hHeld => ?_)
              clear hK K
              refine norm_ (a' := ?_) ?_ ?_
              rotate_left
              ·
               show Act.put _ (some 96) _ = _
               simp only [Act.put, List.setIfInBounds_toArray, List.set_cons_zero, List.set_cons_succ, i64_w, i32_w]
               rfl
              refine one_ (i := 7) (N := some 97) #[true, true, true, true, true, true, true, true, false, false] rfl rfl (one_of HT_.out (by kernel_rfl)) (by decide) (fun K hK => ?_)
              refine goes_ Try.func64 (by kernel_rfl) rfl #[.int .i64 t300] (by rfl) rfl rfl qV ?_
              with_reducible refine (spec_l01Letter.calls t300 t303 _ A61.out).mono ?_
              rintro e w65 ⟨rfl, hb⟩
              refine ⟨_, rfl, ?_⟩
              have n0_ := Aside0.mk (IsS73.below (qI HI0.out) hb)
              have n1_ := Aside0.mk (KeepBut.trans (qK HK.out) (KeepBut.of_below hb g none) (.inl rfl))
              have n2_ := Aside0.mk (below_step (qS HB.out) hb)
              clear HI0
              clear HK
              clear HB
              have HI0 := n0_
              have HK := n1_
              have HB := n2_
              clear n0_ n1_ n2_
              (try clear hb)
              (try clear hb2)
              (try clear hk)
              (try clear hi)
              refine hK.out _ _ trivial (fun hHeld => ?_)
              clear hK K
              refine norm_ (a' := ?_) ?_ ?_
              rotate_left
              ·
               show Act.put _ (some 97) _ = _
               simp only [Act.put, List.setIfInBounds_toArray, List.set_cons_zero, List.set_cons_succ, i64_w, i32_w]
               rfl
              refine pure_ (i := 8) (N := some 98) (v := ?_) (a' := ?_) #[true, true, true, true, true, true, true, true, true, false] rfl rfl (any_of HT_.out (by kernel_rfl)) (fun _ _ _ h => h) (Or.inl ⟨by rfl, ?_⟩) ?_ ?_
              rotate_left
              ·
               intro w'
               go_simp
               with_reducible rfl
              rotate_left
              ·
               simp only [Act.put, List.setIfInBounds_toArray, List.set_cons_zero, List.set_cons_succ, i64_w, i32_w]
               rfl
              refine pure_ (i := 9) (N := some 7) (v := ?_) (a' := ?_) #[true, true, true, true, true, true, true, true, true, true] rfl rfl (any_of HT_.out (by kernel_rfl)) (fun _ _ _ h => h) (Or.inl ⟨by rfl, ?_⟩) ?_ ?_
              rotate_left
              ·
               intro w'
               go_simp
               with_reducible rfl
              rotate_left
              ·
               simp only [Act.put, List.setIfInBounds_toArray, List.set_cons_zero, List.set_cons_succ, i64_w, i32_w]
               rfl
              refine done_ (done_of HT_.out (by kernel_rfl)) ?_
              try go_wp2
              go_ret2
              exact ⟨by first | rfl | (simp [errW_none, errW_some] <;> rfl) | (simp only [← hji57]; first | rfl | (simp [errW_none, errW_some] <;> rfl)) | (simp [*, errW_none, errW_some] <;> rfl), qI HI0.out, qS HB.out, qK HK.out⟩
             ·
              rw [if_neg c62] at H
              exact absurd H (by simp)
            ·
             rw [if_neg c59] at H
             exact absurd H (by simp)
           ·
            rw [if_neg c58] at H
            exact absurd H (by simp)
          ·
           replace c56 := Bool.eq_false_iff.mpr c56
           subst c56
           have H1 : (some (x7_19, ((t269 ++ t275) ++ t269), x1001_50, x1002_50)) = some (r1, r2, r3, r4) := by rw [if_neg (show ¬ (false = true) by decide)] at H; exact H
           clear H
           have H := H1
           clear H1
           simp only [Option.some.injEq, Prod.mk.injEq] at H
           obtain ⟨rfl, rfl, rfl, rfl⟩ := H
           go_wp2
           go_ret2
           exact ⟨qE, qI HI0.out, qS HB.out, qK HK.out⟩
       ·
        rw [if_neg c50] at H
        have c50b0 : (t288 == 1) = false := beq_eq_false_iff_ne.mpr c50
        have c50b1 : (t288 != 1) = true := bne_iff_ne.mpr c50
        simp only [Option.some.injEq, Prod.mk.injEq] at H
        obtain ⟨rfl, rfl, rfl, rfl⟩ := H
        go_wp2_with (first | ((with_reducible refine gate_callee (f := 42) rfl ?_); refine goesL_ (some 63) rfl rfl Try.func42 (by kernel_rfl) rfl #[.pointer (some ⟨g, 0, none⟩), .int .i64 4] rfl qV ?_; (with_reducible refine (spec_l01Next.calls g s0_0 x1001_19 x1002_19 4 t288 t289 t290 w0 _ ?side1 ?side2 A38.out).mono ?_); (case side1 => exact qI HI0.out); (case side2 => exact qS HB.out); rintro e w66 ⟨rfl, hi, hb, hk⟩; refine ⟨_, rfl, ?_⟩; have n0_ := Aside0.mk (KeepBut.trans (qK HK.out) hk (.inl rfl)); have n1_ := Aside0.mk (hb); have n2_ := Aside0.mk (hi); clear HK; clear HB; clear HI0; have HK := n0_; have HB := n1_; have HI0 := n2_; clear n0_ n1_ n2_))
        go_ret2
        exact ⟨qE, qI HI0.out, qS HB.out, qK HK.out⟩
   ·
    rw [if_neg c17] at H
    exact absurd H (by simp)
  ·
   rw [if_neg c16] at H
   exact absurd H (by simp)

end Go.Proofs.Ytoadancbpgignaa.PF

namespace Go.Proofs.Ytoadancbpgignaa.PF
open Go.RowKit Go.Proofs.YtoadancbpgignaaW.PrintWords Go.Proofs.YtoadancbpgignaaW.PrintLast Go.Proofs.YtoadancbpgignaaW.PrintMore
attribute [local go_sem] max2_int min2_int max_two min_two max_three min_three max_four min_four   -- for this text's walks alone
set_option linter.unusedVariables false
set_option linter.unusedSimpArgs false

/-! ### spec_l09With: function 53 -/
def spec_l09With.f (k : Nat) (l0 : List Int) : Option (ByteArray × ByteArray) := (spec_l01From.f k l0).bind fun bt304 => ((spec_l09Draw.f k bt304.1 bt304.2.1 bt304.2.2).bind fun bt308 => ((spec_l01Next.f bt304.1 bt308.2.2.1 bt308.2.2.2 20).bind fun bt312 => (if bt312.1 = 0 then ((spec_l01Bad.f k bt304.1 bt312.2.1 bt312.2.2 bt308.1).bind fun bt315 => ((spec_l01Bad.f k bt304.1 bt315.2.1 bt315.2.2 (⟨#[]⟩ : ByteArray)).bind fun bt318 => (some (bt315.1, bt318.1)))) else ((spec_l01Bad.f k bt304.1 bt312.2.1 bt312.2.2 bt308.1).bind fun bt321 => ((spec_l01Bad.f k bt304.1 bt321.2.1 bt321.2.2 bt308.2.1).bind fun bt324 => (some (bt321.1, bt324.1)))))))
theorem spec_l09With.mono : ∀ a0 k, LeO (spec_l09With.f k a0) (spec_l09With.f (k + 1) a0) := by
 intro a0 k
 unfold spec_l09With.f
 repeat' first
   | (with_reducible exact spec_l01Bad.mono _ _ _ _ _)
   | (with_reducible exact spec_l01From.mono _ _)
   | (with_reducible exact spec_l09Draw.mono _ _ _ _)
   | (with_reducible exact LeO.refl _)
   | (with_reducible exact LeO.none _)
   | (with_reducible refine LeO.ite ?_ ?_)
   | (with_reducible refine LeO.bind ?_ (fun _ => ?_))
set_option maxHeartbeats 8000000 in
set_option maxRecDepth 100000 in
theorem spec_l09With.calls (k : Nat) (A0 : Option Addr) (c0 : Nat) (l0 : List Int) (r1 : ByteArray) (r2 : ByteArray) (w : World) (hr0 : Kd.C (Kd.int .u8) w A0 l0.length l0) (hc0 : l0.length ≤ c0) (h : spec_l09With.f k l0 = some (r1, r2)) :
  Calls Try.prog 53 #[.slice A0 l0.length c0] w fun e w' => e = .returned (.tuple #[.string r1, .string r2]) ∧ Below w.heap.size w w' := by
 have HR0 := Aside0.mk hr0
 have HC0 := Aside0.mk hc0
 clear hr0 hc0
 have HB := Aside0.mk (Below.refl w.heap.size w)
 have H : ((spec_l01From.f k l0).bind fun bt304 => ((spec_l09Draw.f k bt304.1 bt304.2.1 bt304.2.2).bind fun bt308 => ((spec_l01Next.f bt304.1 bt308.2.2.1 bt308.2.2.2 20).bind fun bt312 => (if bt312.1 = 0 then ((spec_l01Bad.f k bt304.1 bt312.2.1 bt312.2.2 bt308.1).bind fun bt315 => ((spec_l01Bad.f k bt304.1 bt315.2.1 bt315.2.2 (⟨#[]⟩ : ByteArray)).bind fun bt318 => (some (bt315.1, bt318.1)))) else ((spec_l01Bad.f k bt304.1 bt312.2.1 bt312.2.2 bt308.1).bind fun bt321 => ((spec_l01Bad.f k bt304.1 bt321.2.1 bt321.2.2 bt308.2.1).bind fun bt324 => (some (bt321.1, bt324.1)))))))) = some (r1, r2) := h
 clear h
 replace H := Option.bind_eq_some_iff.mp H
 obtain ⟨⟨t304, t305, t306⟩, A20, H⟩ := H
 replace H : ((spec_l09Draw.f k t304 t305 t306).bind fun bt308 => ((spec_l01Next.f t304 bt308.2.2.1 bt308.2.2.2 20).bind fun bt312 => (if bt312.1 = 0 then ((spec_l01Bad.f k t304 bt312.2.1 bt312.2.2 bt308.1).bind fun bt315 => ((spec_l01Bad.f k t304 bt315.2.1 bt315.2.2 (⟨#[]⟩ : ByteArray)).bind fun bt318 => (some (bt315.1, bt318.1)))) else ((spec_l01Bad.f k t304 bt312.2.1 bt312.2.2 bt308.1).bind fun bt321 => ((spec_l01Bad.f k t304 bt321.2.1 bt321.2.2 bt308.2.1).bind fun bt324 => (some (bt321.1, bt324.1))))))) = some (r1, r2) := H
 have A2 := Aside0.mk A20
 clear A20
 replace H := Option.bind_eq_some_iff.mp H
 obtain ⟨⟨t308, t309, t310, t311⟩, A30, H⟩ := H
 replace H : ((spec_l01Next.f t304 t310 t311 20).bind fun bt312 => (if bt312.1 = 0 then ((spec_l01Bad.f k t304 bt312.2.1 bt312.2.2 t308).bind fun bt315 => ((spec_l01Bad.f k t304 bt315.2.1 bt315.2.2 (⟨#[]⟩ : ByteArray)).bind fun bt318 => (some (bt315.1, bt318.1)))) else ((spec_l01Bad.f k t304 bt312.2.1 bt312.2.2 t308).bind fun bt321 => ((spec_l01Bad.f k t304 bt321.2.1 bt321.2.2 t309).bind fun bt324 => (some (bt321.1, bt324.1)))))) = some (r1, r2) := H
 have A3 := Aside0.mk A30
 clear A30
 replace H := Option.bind_eq_some_iff.mp H
 obtain ⟨⟨t312, t313, t314⟩, A40, H⟩ := H
 replace H : (if t312 = 0 then ((spec_l01Bad.f k t304 t313 t314 t308).bind fun bt315 => ((spec_l01Bad.f k t304 bt315.2.1 bt315.2.2 (⟨#[]⟩ : ByteArray)).bind fun bt318 => (some (bt315.1, bt318.1)))) else ((spec_l01Bad.f k t304 t313 t314 t308).bind fun bt321 => ((spec_l01Bad.f k t304 bt321.2.1 bt321.2.2 t309).bind fun bt324 => (some (bt321.1, bt324.1))))) = some (r1, r2) := H
 have A4 := Aside0.mk A40
 clear A40
 by_cases c5 : t312 = 0
 ·
  rw [if_pos c5] at H
  have c5b0 : (t312 == 0) = true := beq_iff_eq.mpr c5
  have c5b1 : (t312 != 0) = false := bne_eq_false_iff_eq.mpr c5
  clear c5
  replace H := Option.bind_eq_some_iff.mp H
  obtain ⟨⟨t315, t316, t317⟩, A60, H⟩ := H
  replace H : ((spec_l01Bad.f k t304 t316 t317 (⟨#[]⟩ : ByteArray)).bind fun bt318 => (some (t315, bt318.1))) = some (r1, r2) := H
  have A6 := Aside0.mk A60
  clear A60
  replace H := Option.bind_eq_some_iff.mp H
  obtain ⟨⟨t318, t319, t320⟩, A70, H⟩ := H
  replace H : (some (t315, t318)) = some (r1, r2) := H
  have A7 := Aside0.mk A70
  clear A70
  simp only [Option.some.injEq, Prod.mk.injEq] at H
  obtain ⟨rfl, rfl⟩ := H
  go_enter Try.func53, Try.ntmps53
  go_wp2_with (first | ((with_reducible refine gate_callee (f := 40) rfl ?_); refine goesL_ (some 8) rfl rfl Try.func40 (by kernel_rfl) rfl #[.slice A0 l0.length c0] rfl qV ?_; (with_reducible refine (spec_l01From.calls k _ _ l0 t304 t305 t306 w _ ?side1 ?side2 ?side3 A2.out).mono ?_); (case side1 => exact qB HB.out); (case side2 => exact HR0.out); (case side3 => exact HC0.out); rintro e w8 ⟨g307, rfl, hi, hb, hb2⟩; refine ⟨_, rfl, ?_⟩; have n0_ := Aside0.mk (hb); have n1_ := Aside0.mk (hi); clear HB; have HB := n0_; have HI307 := n1_; clear n0_ n1_) | ((with_reducible refine gate_callee (f := 69) rfl ?_); refine goesL_ (some 11) rfl rfl Try.func69 (by kernel_rfl) rfl #[.pointer (some ⟨g307, 0, none⟩)] rfl qV ?_; (with_reducible refine (spec_l09Draw.calls k g307 t304 t305 t306 t308 t309 t310 t311 w _ ?side1 ?side2 A3.out).mono ?_); (case side1 => exact qI HI307.out); (case side2 => exact qS HB.out); rintro e w9 ⟨rfl, hi, hb, hk⟩; refine ⟨_, rfl, ?_⟩; have n0_ := Aside0.mk (hb); have n1_ := Aside0.mk (hi); clear HB; clear HI307; have HB := n0_; have HI307 := n1_; clear n0_ n1_) | ((with_reducible refine gate_callee (f := 42) rfl ?_); refine goesL_ (some 15) rfl rfl Try.func42 (by kernel_rfl) rfl #[.pointer (some ⟨g307, 0, none⟩), .int .i64 20] rfl qV ?_; (with_reducible refine (spec_l01Next.calls g307 t304 t310 t311 20 t312 t313 t314 w _ ?side1 ?side2 A4.out).mono ?_); (case side1 => exact qI HI307.out); (case side2 => exact qS HB.out); rintro e w10 ⟨rfl, hi, hb, hk⟩; refine ⟨_, rfl, ?_⟩; have n0_ := Aside0.mk (hb); have n1_ := Aside0.mk (hi); clear HB; clear HI307; have HB := n0_; have HI307 := n1_; clear n0_ n1_) | ((with_reducible refine gate_callee (f := 45) rfl ?_); refine goesL_ (some 19) rfl rfl Try.func45 (by kernel_rfl) rfl #[.pointer (some ⟨g307, 0, none⟩), .string t308] rfl qV ?_; (with_reducible refine (spec_l01Bad.calls k g307 t304 t313 t314 t308 t315 t316 t317 w _ ?side1 ?side2 A6.out).mono ?_); (case side1 => exact qI HI307.out); (case side2 => exact qS HB.out); rintro e w11 ⟨rfl, hi, hb, hk⟩; refine ⟨_, rfl, ?_⟩; have n0_ := Aside0.mk (hb); have n1_ := Aside0.mk (hi); clear HB; clear HI307; have HB := n0_; have HI307 := n1_; clear n0_ n1_) | ((with_reducible refine gate_callee (f := 45) rfl ?_); refine goesL_ (some 22) rfl rfl Try.func45 (by kernel_rfl) rfl #[.pointer (some ⟨g307, 0, none⟩), .string (⟨#[]⟩ : ByteArray)] rfl qV ?_; (with_reducible refine (spec_l01Bad.calls k g307 t304 t316 t317 (⟨#[]⟩ : ByteArray) t318 t319 t320 w _ ?side1 ?side2 A7.out).mono ?_); (case side1 => exact qI HI307.out); (case side2 => exact qS HB.out); rintro e w12 ⟨rfl, hi, hb, hk⟩; refine ⟨_, rfl, ?_⟩; have n0_ := Aside0.mk (hb); have n1_ := Aside0.mk (hi); clear HB; clear HI307; have HB := n0_; have HI307 := n1_; clear n0_ n1_))
  go_ret2
  exact ⟨qE, qS HB.out⟩
 ·
  rw [if_neg c5] at H
  have c5b0 : (t312 == 0) = false := beq_eq_false_iff_ne.mpr c5
  have c5b1 : (t312 != 0) = true := bne_iff_ne.mpr c5
  replace H := Option.bind_eq_some_iff.mp H
  obtain ⟨⟨t321, t322, t323⟩, A130, H⟩ := H
  replace H : ((spec_l01Bad.f k t304 t322 t323 t309).bind fun bt324 => (some (t321, bt324.1))) = some (r1, r2) := H
  have A13 := Aside0.mk A130
  clear A130
  replace H := Option.bind_eq_some_iff.mp H
  obtain ⟨⟨t324, t325, t326⟩, A140, H⟩ := H
  replace H : (some (t321, t324)) = some (r1, r2) := H
  have A14 := Aside0.mk A140
  clear A140
  simp only [Option.some.injEq, Prod.mk.injEq] at H
  obtain ⟨rfl, rfl⟩ := H
  go_enter Try.func53, Try.ntmps53
  go_wp2_with (first | ((with_reducible refine gate_callee (f := 40) rfl ?_); refine goesL_ (some 8) rfl rfl Try.func40 (by kernel_rfl) rfl #[.slice A0 l0.length c0] rfl qV ?_; (with_reducible refine (spec_l01From.calls k _ _ l0 t304 t305 t306 w _ ?side1 ?side2 ?side3 A2.out).mono ?_); (case side1 => exact qB HB.out); (case side2 => exact HR0.out); (case side3 => exact HC0.out); rintro e w15 ⟨g307, rfl, hi, hb, hb2⟩; refine ⟨_, rfl, ?_⟩; have n0_ := Aside0.mk (hb); have n1_ := Aside0.mk (hi); clear HB; have HB := n0_; have HI307 := n1_; clear n0_ n1_) | ((with_reducible refine gate_callee (f := 69) rfl ?_); refine goesL_ (some 11) rfl rfl Try.func69 (by kernel_rfl) rfl #[.pointer (some ⟨g307, 0, none⟩)] rfl qV ?_; (with_reducible refine (spec_l09Draw.calls k g307 t304 t305 t306 t308 t309 t310 t311 w _ ?side1 ?side2 A3.out).mono ?_); (case side1 => exact qI HI307.out); (case side2 => exact qS HB.out); rintro e w16 ⟨rfl, hi, hb, hk⟩; refine ⟨_, rfl, ?_⟩; have n0_ := Aside0.mk (hb); have n1_ := Aside0.mk (hi); clear HB; clear HI307; have HB := n0_; have HI307 := n1_; clear n0_ n1_) | ((with_reducible refine gate_callee (f := 42) rfl ?_); refine goesL_ (some 15) rfl rfl Try.func42 (by kernel_rfl) rfl #[.pointer (some ⟨g307, 0, none⟩), .int .i64 20] rfl qV ?_; (with_reducible refine (spec_l01Next.calls g307 t304 t310 t311 20 t312 t313 t314 w _ ?side1 ?side2 A4.out).mono ?_); (case side1 => exact qI HI307.out); (case side2 => exact qS HB.out); rintro e w17 ⟨rfl, hi, hb, hk⟩; refine ⟨_, rfl, ?_⟩; have n0_ := Aside0.mk (hb); have n1_ := Aside0.mk (hi); clear HB; clear HI307; have HB := n0_; have HI307 := n1_; clear n0_ n1_) | ((with_reducible refine gate_callee (f := 45) rfl ?_); refine goesL_ (some 19) rfl rfl Try.func45 (by kernel_rfl) rfl #[.pointer (some ⟨g307, 0, none⟩), .string t308] rfl qV ?_; (with_reducible refine (spec_l01Bad.calls k g307 t304 t313 t314 t308 t321 t322 t323 w _ ?side1 ?side2 A13.out).mono ?_); (case side1 => exact qI HI307.out); (case side2 => exact qS HB.out); rintro e w18 ⟨rfl, hi, hb, hk⟩; refine ⟨_, rfl, ?_⟩; have n0_ := Aside0.mk (hb); have n1_ := Aside0.mk (hi); clear HB; clear HI307; have HB := n0_; have HI307 := n1_; clear n0_ n1_) | ((with_reducible refine gate_callee (f := 45) rfl ?_); refine goesL_ (some 22) rfl rfl Try.func45 (by kernel_rfl) rfl #[.pointer (some ⟨g307, 0, none⟩), .string t309] rfl qV ?_; (with_reducible refine (spec_l01Bad.calls k g307 t304 t322 t323 t309 t324 t325 t326 w _ ?side1 ?side2 A14.out).mono ?_); (case side1 => exact qI HI307.out); (case side2 => exact qS HB.out); rintro e w19 ⟨rfl, hi, hb, hk⟩; refine ⟨_, rfl, ?_⟩; have n0_ := Aside0.mk (hb); have n1_ := Aside0.mk (hi); clear HB; clear HI307; have HB := n0_; have HI307 := n1_; clear n0_ n1_))
  go_ret2
  exact ⟨qE, qS HB.out⟩

end Go.Proofs.Ytoadancbpgignaa.PF

namespace Go.Proofs.Ytoadancbpgignaa.PF
open Go.RowKit Go.Proofs.YtoadancbpgignaaW.PrintWords Go.Proofs.YtoadancbpgignaaW.PrintLast Go.Proofs.YtoadancbpgignaaW.PrintMore
attribute [local go_sem] max2_int min2_int max_two min_two max_three min_three max_four min_four   -- for this text's walks alone
set_option linter.unusedVariables false
set_option linter.unusedSimpArgs false

/-! ### spec_l09One: function 27 -/
def spec_l09One.f (k : Nat) (l0 : List Int) : Option (ByteArray) := (spec_l09With.f k l0).bind fun bt327 => (some bt327.1)
theorem spec_l09One.mono : ∀ a0 k, LeO (spec_l09One.f k a0) (spec_l09One.f (k + 1) a0) := by
 intro a0 k
 unfold spec_l09One.f
 repeat' first
   | (with_reducible exact spec_l09With.mono _ _)
   | (with_reducible exact LeO.refl _)
   | (with_reducible exact LeO.none _)
   | (with_reducible refine LeO.ite ?_ ?_)
   | (with_reducible refine LeO.bind ?_ (fun _ => ?_))
set_option maxHeartbeats 8000000 in
set_option maxRecDepth 100000 in
theorem spec_l09One.calls (k : Nat) (A0 : Option Addr) (c0 : Nat) (l0 : List Int) (r : ByteArray) (w : World) (hr0 : Kd.C (Kd.int .u8) w A0 l0.length l0) (hc0 : l0.length ≤ c0) (h : spec_l09One.f k l0 = some r) :
  Calls Try.prog 27 #[.slice A0 l0.length c0] w fun e w' => e = .returned (.string r) ∧ Below w.heap.size w w' := by
 have HR0 := Aside0.mk hr0
 have HC0 := Aside0.mk hc0
 clear hr0 hc0
 have HB := Aside0.mk (Below.refl w.heap.size w)
 have H : ((spec_l09With.f k l0).bind fun bt327 => (some bt327.1)) = some r := h
 clear h
 replace H := Option.bind_eq_some_iff.mp H
 obtain ⟨⟨t327, t328⟩, A20, H⟩ := H
 replace H : (some t327) = some r := H
 have A2 := Aside0.mk A20
 clear A20
 obtain rfl := Option.some.inj H
 go_enter Try.func27, Try.ntmps27
 go_wp2_with (first | ((with_reducible refine gate_callee (f := 53) rfl ?_); refine goesL_ (some 7) rfl rfl Try.func53 (by kernel_rfl) rfl #[.slice A0 l0.length c0] rfl qV ?_; (with_reducible refine (spec_l09With.calls k _ _ l0 t327 t328 _ ?side1 ?side2 A2.out).mono ?_); (case side1 => exact qC HR0.out); (case side2 => exact HC0.out); rintro e w3 ⟨rfl, hb⟩; refine ⟨_, rfl, ?_⟩; have n0_ := Aside0.mk (below_step (qB HB.out) hb); clear HB; have HB := n0_; clear n0_))
 go_ret
 exact ⟨qE, qB HB.out⟩

end Go.Proofs.Ytoadancbpgignaa.PF

namespace Go.Proofs.Ytoadancbpgignaa.PF
open Go.RowKit Go.Proofs.YtoadancbpgignaaW.PrintWords Go.Proofs.YtoadancbpgignaaW.PrintLast Go.Proofs.YtoadancbpgignaaW.PrintMore
attribute [local go_sem] max2_int min2_int max_two min_two max_three min_three max_four min_four   -- for this text's walks alone
set_option linter.unusedVariables false
set_option linter.unusedSimpArgs false

/-! ### spec_DrawCoversOf: function 5 -/
def spec_DrawCoversOf.f (k : Nat) (l0 : List Int) : Option (ByteArray) := (spec_l09One.f k l0).bind fun t329 => (some t329)
theorem spec_DrawCoversOf.mono : ∀ a0 k, LeO (spec_DrawCoversOf.f k a0) (spec_DrawCoversOf.f (k + 1) a0) := by
 intro a0 k
 unfold spec_DrawCoversOf.f
 repeat' first
   | (with_reducible exact spec_l09One.mono _ _)
   | (with_reducible exact LeO.refl _)
   | (with_reducible exact LeO.none _)
   | (with_reducible refine LeO.ite ?_ ?_)
   | (with_reducible refine LeO.bind ?_ (fun _ => ?_))
set_option maxHeartbeats 8000000 in
set_option maxRecDepth 100000 in
theorem spec_DrawCoversOf.calls (k : Nat) (A0 : Option Addr) (c0 : Nat) (l0 : List Int) (r : ByteArray) (w : World) (hr0 : Kd.C (Kd.int .u8) w A0 l0.length l0) (hc0 : l0.length ≤ c0) (h : spec_DrawCoversOf.f k l0 = some r) :
  Calls Try.prog 5 #[.slice A0 l0.length c0] w fun e w' => e = .returned (.string r) ∧ Below w.heap.size w w' := by
 have HR0 := Aside0.mk hr0
 have HC0 := Aside0.mk hc0
 clear hr0 hc0
 have HB := Aside0.mk (Below.refl w.heap.size w)
 have H : ((spec_l09One.f k l0).bind fun t329 => (some t329)) = some r := h
 clear h
 replace H := Option.bind_eq_some_iff.mp H
 obtain ⟨t329, A20, H⟩ := H
 replace H : (some t329) = some r := H
 have A2 := Aside0.mk A20
 clear A20
 obtain rfl := Option.some.inj H
 go_enter Try.func5, Try.ntmps5
 go_wp2_with (first | ((with_reducible refine gate_callee (f := 27) rfl ?_); refine goesL_ (some 4) rfl rfl Try.func27 (by kernel_rfl) rfl #[.slice A0 l0.length c0] rfl qV ?_; (with_reducible refine (spec_l09One.calls k _ _ l0 t329 _ ?side1 ?side2 A2.out).mono ?_); (case side1 => exact qC HR0.out); (case side2 => exact HC0.out); rintro e w3 ⟨rfl, hb⟩; refine ⟨_, rfl, ?_⟩; have n0_ := Aside0.mk (below_step (qB HB.out) hb); clear HB; have HB := n0_; clear n0_))
 go_ret
 exact ⟨qE, qB HB.out⟩

end Go.Proofs.Ytoadancbpgignaa.PF

namespace Go.Proofs.Ytoadancbpgignaa.PF
open Go.RowKit Go.Proofs.YtoadancbpgignaaW.PrintWords Go.Proofs.YtoadancbpgignaaW.PrintLast Go.Proofs.YtoadancbpgignaaW.PrintMore
attribute [local go_sem] max2_int min2_int max_two min_two max_three min_three max_four min_four   -- for this text's walks alone
set_option linter.unusedVariables false
set_option linter.unusedSimpArgs false

/-! ### impl_always: function 29 -/
def impl_always.f  : Option (Bool) := some true
set_option maxHeartbeats 8000000 in
set_option maxRecDepth 100000 in
theorem impl_always.calls  (r : Bool) (w : World) (h : impl_always.f  = some r) :
  Calls Try.prog 29 #[] w fun e w' => e = .returned (.bool r) ∧ Drawn0 w w' := by
 have H : (some true) = some r := h
 clear h
 obtain rfl := Option.some.inj H
 go_enter Try.func29, Try.ntmps29
 go_wp2
 go_ret
 exact ⟨by first | rfl | (simp; done) | (simp [*]; done) | (simp; rw [Bool.eq_iff_iff]; simp; done), by repeat (first | exact Drawn0.refl _ | apply Drawn0.step)⟩

end Go.Proofs.Ytoadancbpgignaa.PF

namespace Go.Proofs.Ytoadancbpgignaa.PF
open Go.RowKit Go.Proofs.YtoadancbpgignaaW.PrintWords Go.Proofs.YtoadancbpgignaaW.PrintLast Go.Proofs.YtoadancbpgignaaW.PrintMore
attribute [local go_sem] max2_int min2_int max_two min_two max_three min_three max_four min_four   -- for this text's walks alone
set_option linter.unusedVariables false
set_option linter.unusedSimpArgs false

/-! ### stringslite_HasPrefix: function 68 -/
def stringslite_HasPrefix.f (a0 : ByteArray) (a1 : ByteArray) : Option (Bool) := if (a0.size : Int) ≥ (a1.size : Int) then (if 0 ≤ (a1.size : Int) then (if (a1.size : Int) ≤ (a0.size : Int) then (some ((a0.extract 0 ((a1.size : Int) : Int).toNat).toList == a1.toList)) else (none)) else (none)) else (some false)
set_option maxHeartbeats 8000000 in
set_option maxRecDepth 100000 in
theorem stringslite_HasPrefix.calls (a0 : ByteArray) (a1 : ByteArray) (r : Bool) (w : World) (h : stringslite_HasPrefix.f a0 a1 = some r) :
  Calls Try.prog 68 #[.string a0, .string a1] w fun e w' => e = .returned (.bool r) ∧ Drawn0 w w' := by
 have H : (if (a0.size : Int) ≥ (a1.size : Int) then (if 0 ≤ (a1.size : Int) then (if (a1.size : Int) ≤ (a0.size : Int) then (some ((a0.extract 0 ((a1.size : Int) : Int).toNat).toList == a1.toList)) else (none)) else (none)) else (some false)) = some r := h
 clear h
 by_cases c3 : (a0.size : Int) ≥ (a1.size : Int)
 ·
  rw [if_pos c3] at H
  have c3b0 : decide ((a1.size : Int) ≤ (a0.size : Int)) = true := decide_eq_true c3
  have c3b1 : decide (a1.size ≤ a0.size) = true := decide_eq_true (Int.ofNat_le.mp c3)
  clear c3
  by_cases c4 : 0 ≤ (a1.size : Int)
  ·
   rw [if_pos c4] at H
   have c4b0 := eq_true c4
   have c4b1 : decide (0 ≤ (a1.size : Int)) = true := decide_eq_true c4
   clear c4
   by_cases c5 : (a1.size : Int) ≤ (a0.size : Int)
   ·
    rw [if_pos c5] at H
    have c5b0 := eq_true c5
    have c5b1 : decide ((a1.size : Int) ≤ (a0.size : Int)) = true := decide_eq_true c5
    clear c5
    obtain rfl := Option.some.inj H
    go_enter Try.func68, Try.ntmps68
    go_wp2
    go_ret
    exact ⟨by first | rfl | (simp; done) | (simp [*]; done) | (simp; rw [Bool.eq_iff_iff]; simp; done), by repeat (first | exact Drawn0.refl _ | apply Drawn0.step)⟩
   ·
    rw [if_neg c5] at H
    exact absurd H (by simp)
  ·
   rw [if_neg c4] at H
   exact absurd H (by simp)
 ·
  rw [if_neg c3] at H
  have c3b0 : decide ((a1.size : Int) ≤ (a0.size : Int)) = false := decide_eq_false c3
  have c3b1 : decide (a1.size ≤ a0.size) = false := decide_eq_false (fun h => c3 (Int.ofNat_le.mpr h))
  clear c3
  obtain rfl := Option.some.inj H
  go_enter Try.func68, Try.ntmps68
  go_wp2
  go_ret
  exact ⟨by first | rfl | (simp; done) | (simp [*]; done) | (simp; rw [Bool.eq_iff_iff]; simp; done), by repeat (first | exact Drawn0.refl _ | apply Drawn0.step)⟩

end Go.Proofs.Ytoadancbpgignaa.PF

namespace Go.Proofs.Ytoadancbpgignaa.PF
open Go.RowKit Go.Proofs.YtoadancbpgignaaW.PrintWords Go.Proofs.YtoadancbpgignaaW.PrintLast Go.Proofs.YtoadancbpgignaaW.PrintMore
attribute [local go_sem] max2_int min2_int max_two min_two max_three min_three max_four min_four   -- for this text's walks alone
set_option linter.unusedVariables false
set_option linter.unusedSimpArgs false

/-! ### strings_HasPrefix: function 50 -/
def strings_HasPrefix.f (a0 : ByteArray) (a1 : ByteArray) : Option (Bool) := (stringslite_HasPrefix.f a0 a1).bind fun t330 => (some t330)
set_option maxHeartbeats 8000000 in
set_option maxRecDepth 100000 in
theorem strings_HasPrefix.calls (a0 : ByteArray) (a1 : ByteArray) (r : Bool) (w : World) (h : strings_HasPrefix.f a0 a1 = some r) :
  Calls Try.prog 50 #[.string a0, .string a1] w fun e w' => e = .returned (.bool r) ∧ Drawn0 w w' := by
 have H : ((stringslite_HasPrefix.f a0 a1).bind fun t330 => (some t330)) = some r := h
 clear h
 replace H := Option.bind_eq_some_iff.mp H
 obtain ⟨t330, A30, H⟩ := H
 replace H : (some t330) = some r := H
 have A3 := Aside0.mk A30
 clear A30
 obtain rfl := Option.some.inj H
 go_enter Try.func50, Try.ntmps50
 go_wp2_with (first | ((with_reducible refine gate_callee (f := 68) rfl ?_); refine goesL_ (some 7) rfl rfl Try.func68 (by kernel_rfl) rfl #[.string a0, .string a1] rfl qV ?_; (with_reducible refine (stringslite_HasPrefix.calls a0 a1 t330 _ A3.out).mono ?_); rintro e w' ⟨rfl, ⟨nd, rfl⟩⟩; refine ⟨_, rfl, ?_⟩))
 go_ret
 exact ⟨by first | rfl | (simp; done) | (simp [*]; done) | (simp; rw [Bool.eq_iff_iff]; simp; done), by repeat (first | exact Drawn0.refl _ | apply Drawn0.step)⟩

end Go.Proofs.Ytoadancbpgignaa.PF

namespace Go.Proofs.Ytoadancbpgignaa.PF
open Go.RowKit Go.Proofs.YtoadancbpgignaaW.PrintWords Go.Proofs.YtoadancbpgignaaW.PrintLast Go.Proofs.YtoadancbpgignaaW.PrintMore
attribute [local go_sem] max2_int min2_int max_two min_two max_three min_three max_four min_four   -- for this text's walks alone
set_option linter.unusedVariables false
set_option linter.unusedSimpArgs false

/-! ### impl_places: function 61 -/
def impl_places.l0 : Nat → ByteArray → ByteArray → List Int → Int → Int → Option (List Int)
 | 0, _, _, _, _, _ => none
 | k + 1, x0, x1, x5, x9, x10 => if x10 < x9 then (if 0 ≤ x10 then (if x10 ≤ (x0.size : Int) then ((strings_HasPrefix.f (x0.extract (x10 : Int).toNat x0.size) x1).bind fun t331 => (if t331 = true then (if x5.length < 17592186044416 then (impl_places.l0 k x0 x1 (x5 ++ [x10]) x9 (wrap64 (x10 + 1))) else (none)) else (impl_places.l0 k x0 x1 x5 x9 (wrap64 (x10 + 1))))) else (none)) else (none)) else (some x5)
def impl_places.f (k : Nat) (a0 : ByteArray) (a1 : ByteArray) : Option (List Int) := impl_places.l0 k a0 a1 ([] : List Int) (wrap64 ((a0.size : Int) + 1)) 0
theorem impl_places.mono_l : ∀ k, (∀ y0 y1 y2 y3 y4, LeO (impl_places.l0 k y0 y1 y2 y3 y4) (impl_places.l0 (k + 1) y0 y1 y2 y3 y4))
 | 0 => fun _ _ _ _ _ r h => by simp [impl_places.l0] at h
 | k + 1 => by
  have ih0 := impl_places.mono_l k
  ·
   intro y0 y1 y2 y3 y4
   unfold impl_places.l0
   repeat' first
   | (with_reducible exact ih0 _ _ _ _ _)
   | (with_reducible exact LeO.refl _)
   | (with_reducible exact LeO.none _)
   | (with_reducible refine LeO.ite ?_ ?_)
   | (with_reducible refine LeO.bind ?_ (fun _ => ?_))
theorem impl_places.mono : ∀ a0 a1 k, LeO (impl_places.f k a0 a1) (impl_places.f (k + 1) a0 a1) := by
 intro a0 a1 k
 have ih0 := impl_places.mono_l k
 unfold impl_places.f
 repeat' first
   | (with_reducible exact ih0 _ _ _ _ _)
   | (with_reducible exact LeO.refl _)
   | (with_reducible exact LeO.none _)
   | (with_reducible refine LeO.ite ?_ ?_)
   | (with_reducible refine LeO.bind ?_ (fun _ => ?_))
set_option maxHeartbeats 8000000 in
set_option maxRecDepth 100000 in
theorem impl_places.calls (k : Nat) (a0 : ByteArray) (a1 : ByteArray) (r : List Int) (w : World) (h : impl_places.f k a0 a1 = some r) :
  Calls Try.prog 61 #[.string a0, .string a1] w fun e w' => ∃ v0_ : Value, e = .returned (v0_) ∧ Kd.R (Kd.int .i64) 2 w' w.heap.size (fun _ => True) v0_ r ∧ Below w.heap.size w w' := by
 have HB := Aside0.mk (Below.refl w.heap.size w)
 have H : (impl_places.l0 k a0 a1 ([] : List Int) (wrap64 ((a0.size : Int) + 1)) 0) = some r := h
 clear h
 have H' := Aside0.mk H
 clear H
 go_enter Try.func61, Try.ntmps61
 go_wp2
 go_loopg [5, 10] k (fun kq v5 v10 w' => ∃ (x5_1 : List Int) (x10_1 : Int), v10 = .int .i64 x10_1 ∧ Aside0 (impl_places.l0 kq a0 a1 x5_1 (wrap64 ((a0.size : Int) + 1)) x10_1 = some r) ∧ Aside0 (kq ≤ k) ∧ Aside0 (Kd.R (Kd.int .i64) 2 w' w.heap.size (fun _ => True) v5 x5_1) ∧ Aside0 (Below w.heap.size w w'))
 case atStart => exact ⟨(([] : List Int)), (0), qF, H', ⟨Nat.le_refl _⟩, ⟨by first | exact Kd.R_nil _ _ _ _ _ | exact Kd.N_nil _ _ _ _ _ | exact Kd.V_nil _ _ _ _ _ | exact Kd.Q_nil _ _ _ _ _ | exact Kd.S_nil _ _ _ _ _⟩, ⟨qB HB.out⟩⟩
 case round =>
  clear H'
  obtain ⟨x5_1, x10_1, rfl, HA, HK1, HO_5, HB⟩ := hrel
  cases gk with
  | zero => exact absurd HA.out (by simp [impl_places.l0])
  | succ k1 =>
   have H := HA.out
   clear HA
   simp only [impl_places.l0] at H
   by_cases c3 : x10_1 < (wrap64 ((a0.size : Int) + 1))
   ·
    rw [if_pos c3] at H
    have c3b0 : decide (x10_1 < (wrap64 ((a0.size : Int) + 1))) = true := decide_eq_true c3
    clear c3
    by_cases c4 : 0 ≤ x10_1
    ·
     rw [if_pos c4] at H
     have c4b0 := eq_true c4
     have c4b1 : decide (0 ≤ x10_1) = true := decide_eq_true c4
     clear c4
     by_cases c5 : x10_1 ≤ (a0.size : Int)
     ·
      rw [if_pos c5] at H
      have c5b0 := eq_true c5
      have c5b1 : decide (x10_1 ≤ (a0.size : Int)) = true := decide_eq_true c5
      clear c5
      replace H := Option.bind_eq_some_iff.mp H
      obtain ⟨t331, A60, H⟩ := H
      replace H : (if t331 = true then (if x5_1.length < 17592186044416 then (impl_places.l0 k1 a0 a1 (x5_1 ++ [x10_1]) (wrap64 ((a0.size : Int) + 1)) (wrap64 (x10_1 + 1))) else (none)) else (impl_places.l0 k1 a0 a1 x5_1 (wrap64 ((a0.size : Int) + 1)) (wrap64 (x10_1 + 1)))) = some r := H
      have A6 := Aside0.mk A60
      clear A60
      by_cases c7 : t331 = true
      ·
       subst c7
       have H1 : (if x5_1.length < 17592186044416 then (impl_places.l0 k1 a0 a1 (x5_1 ++ [x10_1]) (wrap64 ((a0.size : Int) + 1)) (wrap64 (x10_1 + 1))) else (none)) = some r := by rw [if_pos rfl] at H; exact H
       clear H
       have H := H1
       clear H1
       by_cases c8 : x5_1.length < 17592186044416
       ·
        rw [if_pos c8] at H
        have LMc8 := Aside0.mk c8
        clear c8
        obtain ⟨y332, hy332⟩ : ∃ y_ : List Int, y_ = (x5_1 ++ [x10_1]) := ⟨_, rfl⟩
        replace H : (impl_places.l0 k1 a0 a1 y332 (wrap64 ((a0.size : Int) + 1)) (wrap64 (x10_1 + 1))) = some r := by first | (rw [hy332]; with_reducible exact H) | (have H2_ := (Option.bind_some _ _).symm.trans H; rw [hy332]; with_reducible exact H2_) | (have H2_ := (Option.bind_some _ _).symm.trans H; with_reducible exact H2_) | with_reducible exact H | (rw [hy332]; exact H) | exact H
        have Ny332 := Aside0.mk hy332
        clear hy332
        have H' := Aside0.mk H
        clear H
        go_wp2_with (first | ((with_reducible refine gate_callee (f := 50) rfl ?_); refine goesL_ (some 17) rfl rfl Try.func50 (by kernel_rfl) rfl #[.string (a0.extract (x10_1 : Int).toNat a0.size), .string a1] rfl qV ?_; (with_reducible refine (strings_HasPrefix.calls (a0.extract (x10_1 : Int).toNat a0.size) a1 true _ A6.out).mono ?_); rintro e w' ⟨rfl, ⟨nd, rfl⟩⟩; refine ⟨_, rfl, ?_⟩) | ((with_reducible refine gate_builtin (b := .append) (xs := #[.tmp 18, .tmp 20]) rfl ?_); at_builtin; refine Kd.R_append (Kd.int .i64) (w0 := w) w.heap.size rfl (.tmp 18) (.tmp 20) 30 2 (.int .i64 0) 8 rfl Try.underlying30 info2 rfl (by decide) (by omega) u5 x5_1 x10_1 [.int .i64 x10_1] (fun _ => True) (fun _ => False) rfl rfl ?aP (fun _ hk => hk.elim) ?aF ?aO ?aB ?aS ?aL ?_; (case aP => exact rfl); (case aB => exact (qB HB.out)); (case aF => exact (fun _ _ => trivial)); (case aO => exact (qR HO_5.out)); (case aS => exact (below_size (qB HB.out))); (case aL => have := LMc8.out; omega); intro v333 w9 ho hb hg hat; rw [← Ny332.out] at ho; have n0_ := Aside0.mk (hb); have n1_ := Aside0.mk (ho); clear HB; clear HO_5; have HB := n0_; have HO334 := n1_; clear n0_ n1_; clear ho hb hg hat))
        go_roundg k1
        case measure => have := HK1.out; omega
        case rel => exact ⟨(y332), (wrap64 (x10_1 + 1)), qF, H', ⟨by have := HK1.out; omega⟩, ⟨qR HO334.out⟩, ⟨qB HB.out⟩⟩
       ·
        rw [if_neg c8] at H
        exact absurd H (by simp)
      ·
       replace c7 := Bool.eq_false_iff.mpr c7
       subst c7
       have H1 : (impl_places.l0 k1 a0 a1 x5_1 (wrap64 ((a0.size : Int) + 1)) (wrap64 (x10_1 + 1))) = some r := by rw [if_neg (show ¬ (false = true) by decide)] at H; exact H
       clear H
       have H := H1
       clear H1
       have H' := Aside0.mk H
       clear H
       go_wp2_with (first | ((with_reducible refine gate_callee (f := 50) rfl ?_); refine goesL_ (some 17) rfl rfl Try.func50 (by kernel_rfl) rfl #[.string (a0.extract (x10_1 : Int).toNat a0.size), .string a1] rfl qV ?_; (with_reducible refine (strings_HasPrefix.calls (a0.extract (x10_1 : Int).toNat a0.size) a1 false _ A6.out).mono ?_); rintro e w' ⟨rfl, ⟨nd, rfl⟩⟩; refine ⟨_, rfl, ?_⟩))
       go_roundg k1
       case measure => have := HK1.out; omega
       case rel => exact ⟨(x5_1), (wrap64 (x10_1 + 1)), qF, H', ⟨by have := HK1.out; omega⟩, ⟨qR HO_5.out⟩, ⟨qB HB.out⟩⟩
     ·
      rw [if_neg c5] at H
      exact absurd H (by simp)
    ·
     rw [if_neg c4] at H
     exact absurd H (by simp)
   ·
    rw [if_neg c3] at H
    have c3b0 : decide (x10_1 < (wrap64 ((a0.size : Int) + 1))) = false := decide_eq_false c3
    clear c3
    obtain rfl := Option.some.inj H
    go_wp2
    go_ret
    exact ⟨_, qE, qR HO_5.out, qB HB.out⟩

end Go.Proofs.Ytoadancbpgignaa.PF

namespace Go.Proofs.Ytoadancbpgignaa.PF
open Go.RowKit Go.Proofs.YtoadancbpgignaaW.PrintWords Go.Proofs.YtoadancbpgignaaW.PrintLast Go.Proofs.YtoadancbpgignaaW.PrintMore
attribute [local go_sem] max2_int min2_int max_two min_two max_three min_three max_four min_four   -- for this text's walks alone
set_option linter.unusedVariables false
set_option linter.unusedSimpArgs false

/-! ### slices_Index_bool_bool: function 76 -/
def slices_Index_bool_bool.l0 : Nat → List Bool → Bool → Int → Int → Option (Int)
 | 0, _, _, _, _ => none
 | k + 1, x0, x1, x7, x8 => if x8 < x7 then (if 0 ≤ x8 then (if x8 < (x0.length : Int) then (if (x1 == (rdOf false x0 x8)) = true then (some x8) else (slices_Index_bool_bool.l0 k x0 x1 x7 (wrap64 (x8 + 1)))) else (none)) else (none)) else (some (-1))
def slices_Index_bool_bool.f (k : Nat) (l0 : List Bool) (a1 : Bool) : Option (Int) := slices_Index_bool_bool.l0 k l0 a1 (l0.length : Int) 0
theorem slices_Index_bool_bool.mono_l : ∀ k, (∀ y0 y1 y2 y3, LeO (slices_Index_bool_bool.l0 k y0 y1 y2 y3) (slices_Index_bool_bool.l0 (k + 1) y0 y1 y2 y3))
 | 0 => fun _ _ _ _ r h => by simp [slices_Index_bool_bool.l0] at h
 | k + 1 => by
  have ih0 := slices_Index_bool_bool.mono_l k
  ·
   intro y0 y1 y2 y3
   unfold slices_Index_bool_bool.l0
   repeat' first
   | (with_reducible exact ih0 _ _ _ _)
   | (with_reducible exact LeO.refl _)
   | (with_reducible exact LeO.none _)
   | (with_reducible refine LeO.ite ?_ ?_)
   | (with_reducible refine LeO.bind ?_ (fun _ => ?_))
theorem slices_Index_bool_bool.mono : ∀ a0 a1 k, LeO (slices_Index_bool_bool.f k a0 a1) (slices_Index_bool_bool.f (k + 1) a0 a1) := by
 intro a0 a1 k
 have ih0 := slices_Index_bool_bool.mono_l k
 unfold slices_Index_bool_bool.f
 repeat' first
   | (with_reducible exact ih0 _ _ _ _)
   | (with_reducible exact LeO.refl _)
   | (with_reducible exact LeO.none _)
   | (with_reducible refine LeO.ite ?_ ?_)
   | (with_reducible refine LeO.bind ?_ (fun _ => ?_))
set_option maxHeartbeats 8000000 in
set_option maxRecDepth 100000 in
theorem slices_Index_bool_bool.calls (k : Nat) (A0 : Option Addr) (c0 : Nat) (l0 : List Bool) (a1 : Bool) (r : Int) (w : World) (hr0 : Kd.C Kd.bool w A0 l0.length l0) (hc0 : l0.length ≤ c0) (h : slices_Index_bool_bool.f k l0 a1 = some r) :
  Calls Try.prog 76 #[.slice A0 l0.length c0, .bool a1] w fun e w' => e = .returned (.int .i64 r) ∧ Drawn0 w w' := by
 have HR0 := Aside0.mk hr0
 have HC0 := Aside0.mk hc0
 clear hr0 hc0
 have H : (slices_Index_bool_bool.l0 k l0 a1 (l0.length : Int) 0) = some r := h
 clear h
 have H' := Aside0.mk H
 clear H
 go_enter Try.func76, Try.ntmps76
 go_wp2
 go_loopg [8] k (fun kq v8 w' => ∃ (x8_1 : Int), v8 = .int .i64 x8_1 ∧ Aside0 (slices_Index_bool_bool.l0 kq l0 a1 (l0.length : Int) x8_1 = some r) ∧ Aside0 (kq ≤ k) ∧ Drawn0 w w')
 case atStart => exact ⟨(0), qF, H', ⟨Nat.le_refl _⟩, by repeat (first | exact Drawn0.refl _ | apply Drawn0.step)⟩
 case round =>
  clear H'
  obtain ⟨x8_1, rfl, HA, HK1, ⟨m1, rfl⟩⟩ := hrel
  cases gk with
  | zero => exact absurd HA.out (by simp [slices_Index_bool_bool.l0])
  | succ k1 =>
   have H := HA.out
   clear HA
   simp only [slices_Index_bool_bool.l0] at H
   by_cases c3 : x8_1 < (l0.length : Int)
   ·
    rw [if_pos c3] at H
    have c3b0 : decide (x8_1 < (l0.length : Int)) = true := decide_eq_true c3
    clear c3
    by_cases c4 : 0 ≤ x8_1
    ·
     rw [if_pos c4] at H
     have c4b0 : decide (0 ≤ x8_1) = true := decide_eq_true c4
     clear c4
     by_cases c5 : x8_1 < (l0.length : Int)
     ·
      rw [if_pos c5] at H
      have c5b0 : decide (x8_1 < (l0.length : Int)) = true := decide_eq_true c5
      clear c5
      by_cases c6 : (a1 == (rdOf false l0 x8_1)) = true
      ·
       rw [if_pos c6] at H
       have c6b0 : (a1 == (rdOf false l0 x8_1)) = true := c6
       (try (have c6b1 : decide (a1 = (rdOf false l0 x8_1)) = true := by simpa using c6))
       (try (have c6b2 : (a1 == (rdOf false l0 x8_1)) = true := by simpa using c6))
       clear c6
       obtain rfl := Option.some.inj H
       have p335 : 0 ≤ (x8_1 : Int) := of_decide_eq_true (by first | (with_reducible assumption) | assumption)
       have q335 : x8_1 < (l0.length : Int) := of_decide_eq_true (by first | (with_reducible assumption) | assumption)
       obtain ⟨ad335, e335, hx335_0⟩ := Kd.at_bool HR0.out x8_1 p335 q335
       cases e335
       replace p335 := eq_true p335
       replace q335 := eq_true q335
       go_wp2
       go_ret
       exact ⟨by first | rfl | (simp; done) | (simp [*]; done) | (simp; rw [Bool.eq_iff_iff]; simp; done), by repeat (first | exact Drawn0.refl _ | apply Drawn0.step)⟩
      ·
       rw [if_neg c6] at H
       have c6b0 : (a1 == (rdOf false l0 x8_1)) = false := by simpa using c6
       (try (have c6b1 : decide (a1 = (rdOf false l0 x8_1)) = false := by simpa using c6))
       (try (have c6b2 : (a1 == (rdOf false l0 x8_1)) = false := by simpa using c6))
       (try (have c6b3 : ¬ (a1 = (rdOf false l0 x8_1)) := by simpa using c6))
       clear c6
       have H' := Aside0.mk H
       clear H
       have p335 : 0 ≤ (x8_1 : Int) := of_decide_eq_true (by first | (with_reducible assumption) | assumption)
       have q335 : x8_1 < (l0.length : Int) := of_decide_eq_true (by first | (with_reducible assumption) | assumption)
       obtain ⟨ad335, e335, hx335_0⟩ := Kd.at_bool HR0.out x8_1 p335 q335
       cases e335
       replace p335 := eq_true p335
       replace q335 := eq_true q335
       go_wp2
       go_roundg k1
       case measure => have := HK1.out; omega
       case rel => exact ⟨(wrap64 (x8_1 + 1)), qF, H', ⟨by have := HK1.out; omega⟩, by repeat (first | exact Drawn0.refl _ | apply Drawn0.step)⟩
     ·
      rw [if_neg c5] at H
      exact absurd H (by simp)
    ·
     rw [if_neg c4] at H
     exact absurd H (by simp)
   ·
    rw [if_neg c3] at H
    have c3b0 : decide (x8_1 < (l0.length : Int)) = false := decide_eq_false c3
    clear c3
    obtain rfl := Option.some.inj H
    go_wp2
    go_ret
    exact ⟨by first | rfl | (simp; done) | (simp [*]; done) | (simp; rw [Bool.eq_iff_iff]; simp; done), by repeat (first | exact Drawn0.refl _ | apply Drawn0.step)⟩

end Go.Proofs.Ytoadancbpgignaa.PF
