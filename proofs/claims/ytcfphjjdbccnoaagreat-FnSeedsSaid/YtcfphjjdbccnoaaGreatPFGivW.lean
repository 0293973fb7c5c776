/- Given for the print: the borders of a word, by hand: the periods' row is turned in place (the loop goes over the row that it writes) and reversed. -/
import Derived.Test.YtcfphjjdbccnoaaGreatPFGivA
import Derived.Test.YtcfphjjdbccnoaaGreatPFx8
import Derived.Test.YtcfphjjdbccnoaaGreatPFx2
import Derived.Test.YtcfphjjdbccnoaaGreatPFx3
namespace Go.Proofs.YtcfphjjdbccnoaaGreat.PF
open Go.RowKit Go.Proofs.YtcfphjjdbccnoaaGreatW.PrintWords Go.Proofs.YtcfphjjdbccnoaaGreatW.PrintLast Go.Proofs.YtcfphjjdbccnoaaGreatW.PrintMore
attribute [local go_sem] max2_int min2_int max_two min_two max_three min_three max_four min_four   -- for this text's walks alone
set_option linter.unusedVariables false
set_option linter.unusedSimpArgs false

def impl_BordersOf.l0 : Nat → ByteArray → Int → List Int → Int → Option (List Int)
 | 0, _, _, _, _ => none
 | k + 1, a, n, l, i => if i < n then (if 0 ≤ i then impl_BordersOf.l0 k a n (l.set i.toNat (wrap64 ((a.size : Int) - rdOf 0 l i))) (wrap64 (i + 1)) else none) else some l
def impl_BordersOf.f (k : Nat) (a0 : ByteArray) : Option (List Int × Int) := (impl_PeriodsOf.f k a0).bind fun t => if t.2 = 0 then ((impl_BordersOf.l0 k a0 (t.1.length : Int) t.1 0).bind fun u => (slices_Reverse_int64_int64.f k u).bind fun v => some (v, 0)) else some ([], t.2)
theorem impl_BordersOf.mono_l : ∀ k y0 y1 y2 y3, LeO (impl_BordersOf.l0 k y0 y1 y2 y3) (impl_BordersOf.l0 (k + 1) y0 y1 y2 y3) := by
 intro k
 induction k with
 | zero => exact fun _ _ _ _ => LeO.none _
 | succ k ih => exact fun y0 y1 y2 y3 => LeO.ite (LeO.ite (ih _ _ _ _) (LeO.refl _)) (LeO.refl _)
theorem impl_BordersOf.mono : ∀ a0 k, LeO (impl_BordersOf.f k a0) (impl_BordersOf.f (k + 1) a0) := fun a0 k =>
 LeO.bind (impl_PeriodsOf.mono _ _) fun t => LeO.ite (LeO.bind (impl_BordersOf.mono_l k _ _ _ _) fun u => LeO.bind (slices_Reverse_int64_int64.mono _ _) fun v => LeO.refl _) (LeO.refl _)

set_option maxHeartbeats 8000000 in
set_option maxRecDepth 100000 in
theorem impl_BordersOf.calls (k : Nat) (a0 : ByteArray) (r1 : List Int) (r2 : Int) (w : World) (h : impl_BordersOf.f k a0 = some (r1, r2)) :
  Calls Tryz.prog 15 #[.string a0] w fun e w' => ∃ v0_ : Value, e = .returned (.tuple #[v0_, .int .i64 r2]) ∧ Kd.R (Kd.int .i64) 2 w' w.heap.size (fun _ => True) v0_ r1 ∧ Below w.heap.size w w' := by
 have HB := Aside0.mk (Below.refl w.heap.size w)
 obtain ⟨⟨t1, t2⟩, A10, H⟩ := Option.bind_eq_some_iff.mp h
 replace H : (if t2 = 0 then ((impl_BordersOf.l0 k a0 (t1.length : Int) t1 0).bind fun u => (slices_Reverse_int64_int64.f k u).bind fun v => some (v, 0)) else some ([], t2)) = some (r1, r2) := H
 have A1 := Aside0.mk A10
 have hsz := Aside0.mk (fun W => impl_size.calls a0 (a0.size : Int) W rfl)
 clear h A10
 by_cases c4 : t2 = 0
 ·
  rw [if_pos c4] at H
  subst c4
  obtain ⟨u, A20, H⟩ := Option.bind_eq_some_iff.mp H
  obtain ⟨v, A30, H⟩ := Option.bind_eq_some_iff.mp H
  simp only [Option.some.injEq, Prod.mk.injEq] at H
  obtain ⟨rfl, rfl⟩ := H
  obtain ⟨n, hn⟩ : ∃ n : Nat, n = t1.length := ⟨_, rfl⟩
  rw [← hn] at A20
  have H' := Aside0.mk A20
  have A3 := Aside0.mk A30
  have HN := Aside0.mk hn
  clear A20 A30 hn
  go_enter Tryz.func15, Tryz.ntmps15
  go_wp2_with (first
   | (go_at_call 44; (with_reducible refine (impl_PeriodsOf.calls k a0 t1 0 _ A1.out).mono ?_); rintro e w7 ⟨v7, rfl, ho0, hb⟩; obtain ⟨Ao, co, eo⟩ := Kd.R_slice ho0; rw [← HN.out] at eo; subst eo; have HO_0 := Aside0.mk (Kd.R_lower ho0 (below_size (by repeat (first | (with_reducible first | exact HB.out | apply below_alloc | apply pw_below_drewN | apply below_drew1) | exact HB.out)))); have HB1 := Aside0.mk (below_step (by repeat (first | (with_reducible first | exact HB.out | apply below_alloc | apply pw_below_drewN | apply below_drew1) | exact HB.out)) hb); clear HB ho0 hb; have HB := HB1; clear HB1))
  go_loopg [6, 7, 18] k (fun kq _ _ v18 w' => ∃ (x0_1 : List Int) (x18 : Int), v18 = .int .i64 x18 ∧ Aside0 (impl_BordersOf.l0 kq a0 (n : Int) x0_1 x18 = some u) ∧ Aside0 (kq ≤ k) ∧ Aside0 (Kd.R (Kd.int .i64) 2 w' w.heap.size (fun _ => True) (.slice Ao n co) x0_1) ∧ Aside0 (Below w.heap.size w w'))
  case atStart => exact ⟨t1, 0, rfl, H', ⟨Nat.le_refl _⟩, ⟨by (with_reducible repeat (first | apply Kd.R_alloc | apply Kd.R_drewN | apply Kd.R_drew)); exact HO_0.out⟩, ⟨by repeat (first | (with_reducible first | exact HB.out | apply below_alloc | apply pw_below_drewN | apply below_drew1) | exact HB.out)⟩⟩
  case round =>
   clear H' HO_0 HB HN
   obtain ⟨x0_1, x18, rfl, HA, HK1, HO_0, HB⟩ := hrel
   cases gk with
   | zero => exact absurd HA.out (by simp [impl_BordersOf.l0])
   | succ k1 =>
    have H := HA.out
    clear HA
    simp only [impl_BordersOf.l0] at H
    by_cases c3 : x18 < (n : Int)
    ·
     rw [if_pos c3] at H
     have c3b0 : decide (x18 < (n : Int)) = true := decide_eq_true c3
     by_cases c5 : 0 ≤ x18
     ·
      rw [if_pos c5] at H
      have c5b0 : decide (0 ≤ x18) = true := decide_eq_true c5
      have hlen : n = x0_1.length := (Kd.R_reads' HO_0.out).1
      obtain ⟨go5, co5, eo5, gb5, gl5, cl5, HG5⟩ := Kd.R_form HO_0.out (by omega)
      (first | cases eo5 | (injection eo5 with ea_ en_ ec_; (first | subst ea_ | (injection ea_ with ea_; subst ea_)); subst ec_; clear en_))
      have GB5 := Aside0.mk gb5
      obtain ⟨hx5_0, hf5_0⟩ := Kd.R_celln 0 HO_0.out x18 c5 c3
      generalize hval : rdOf 0 x0_1 x18 = rv at H hx5_0
      generalize hy : x0_1.set x18.toNat (wrap64 ((a0.size : Int) - rv)) = y at H
      have Hy := Aside0.mk hy
      have H' := Aside0.mk H
      have P5 := Aside0.mk c5
      have P3 := Aside0.mk c3
      have p5 := eq_true c5
      have q5 := eq_true c3
      clear H c3 c5 hlen gb5 gl5 HG5 hval hy
      go_wp2_with (first
       | (go_at_call 45; (with_reducible refine (hsz.out _).mono ?_); rintro e w8 ⟨rfl, hd1⟩; have hb1 := hd1.below; have HO_1 := Aside0.mk (Kd.R_below HO_0.out hb1); have HB_1 := Aside0.mk (below_step HB.out hb1); obtain ⟨hx6_0, hf6_0⟩ := Kd.R_celln 0 HO_1.out x18 P5.out P3.out; have HP7 := Aside0.mk (Kd.R_putg HO_1.out x18 (wrap64 ((a0.size : Int) - rv))); clear hd1 hb1 HO_0 HB))
      go_roundg k1
      case measure => have := HK1.out; omega
      case rel => exact ⟨y, _, rfl, H', ⟨by have := HK1.out; omega⟩, ⟨by have := HP7.out.1; rw [Hy.out] at this; exact this⟩, ⟨below_set HB_1.out GB5.out⟩⟩
     ·
      rw [if_neg c5] at H
      exact absurd H (by simp)
    ·
     rw [if_neg c3] at H
     have c3b0 : decide (x18 < (n : Int)) = false := decide_eq_false c3
     have c3b1 := eq_false c3
     clear c3
     obtain rfl := Option.some.inj H
     clear H
     go_wp2_with (first | (go_at_call 46; (with_reducible refine (slices_Reverse_int64_int64.calls k (fun _ => True) _ x0_1 v w _ ?side1 ?side2 A3.out).mono ?_); (case side1 => repeat (first | (with_reducible first | exact HB.out | apply below_alloc | apply pw_below_drewN | apply below_drew1) | exact HB.out)); (case side2 => (with_reducible repeat (first | apply Kd.R_alloc | apply Kd.R_drewN | apply Kd.R_drew)); exact HO_0.out); rintro e w9 ⟨rfl, hR, hb, hk⟩; have HO_9 := Aside0.mk (Kd.R_mono (ok' := fun _ => True) hR (fun _ _ => trivial)); have HB_9 := Aside0.mk hb; clear hR hb hk))
     go_ret2
     exact ⟨_, rfl, by (with_reducible repeat (first | apply Kd.R_alloc | apply Kd.R_drewN | apply Kd.R_drew)); exact HO_9.out, by repeat (first | (with_reducible first | exact HB_9.out | apply below_alloc | apply pw_below_drewN | apply below_drew1) | exact HB_9.out)⟩
 ·
  rw [if_neg c4] at H
  have c4b0 : (t2 == 0) = false := beq_eq_false_iff_ne.mpr c4
  have c4b1 : (t2 != 0) = true := bne_iff_ne.mpr c4
  simp only [Option.some.injEq, Prod.mk.injEq] at H
  obtain ⟨rfl, rfl⟩ := H
  go_enter Tryz.func15, Tryz.ntmps15
  go_wp2_with (first
   | (go_at_call 44; (with_reducible refine (impl_PeriodsOf.calls k a0 t1 t2 _ A1.out).mono ?_); rintro e w7 ⟨v7, rfl, ho0, hb⟩; have HB1 := Aside0.mk (below_step (by repeat (first | (with_reducible first | exact HB.out | apply below_alloc | apply pw_below_drewN | apply below_drew1) | exact HB.out)) hb); clear HB ho0 hb; have HB := HB1; clear HB1))
  go_ret2
  exact ⟨_, rfl, Kd.R_nil _ _ _ _ _, by repeat (first | (with_reducible first | exact HB.out | apply below_alloc | apply pw_below_drewN | apply below_drew1) | exact HB.out)⟩

end Go.Proofs.YtcfphjjdbccnoaaGreat.PF
