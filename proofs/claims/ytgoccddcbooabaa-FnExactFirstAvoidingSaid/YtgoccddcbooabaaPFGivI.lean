/- Given for the print: is it a pattern, by hand. -/
import Derived.Test.YtgoccddcbooabaaPFGivA
import Derived.Test.YtgoccddcbooabaaPFx0
import Derived.Test.YtgoccddcbooabaaPFx0
namespace Go.Proofs.Ytgoccddcbooabaa.PF
open Go.RowKit Go.Proofs.YtgoccddcbooabaaW.PrintWords Go.Proofs.YtgoccddcbooabaaW.PrintLast Go.Proofs.YtgoccddcbooabaaW.PrintMore
set_option linter.unusedVariables false
set_option linter.unusedSimpArgs false

/-- The variables of patterns. -/
def isVar (c : Int) : Bool := decide (65 ≤ c) && decide (c < 68)

theorem IsPattern1 (w0 : World) : PredIn (Value.int .u8) (fun c => some (isVar c)) 22 #[] w0 := by
  intro x w hb0 r h
  obtain rfl := Option.some.inj h
  clear h hb0
  show Calls Try.prog 22 #[.int .u8 x] w _
  unfold isVar
  by_cases h1 : 65 ≤ x
  · have h1b : decide (65 ≤ x) = true := decide_eq_true h1
    rw [h1b]
    go_enter Try.func22, Try.ntmps22
    go_wp2
    go_ret
    exact ⟨rfl, Below.refl _ _⟩
  · have h1b : decide (65 ≤ x) = false := decide_eq_false h1
    rw [h1b]
    go_enter Try.func22, Try.ntmps22
    go_wp2
    go_ret
    exact ⟨rfl, Below.refl _ _⟩

/-- Is it a pattern? -/
def isP (a : ByteArray) : Bool := (decide (1 ≤ a.size) && decide (a.size ≤ 8)) && (bytesOf a).all isVar
def impl_IsPattern.f (a0 : ByteArray) : Option Bool := some (isP a0)

set_option maxHeartbeats 2000000 in
theorem impl_IsPattern.calls (a0 : ByteArray) (r : Bool) (w : World) (h : impl_IsPattern.f a0 = some r) :
    Calls Try.prog 9 #[.string a0] w fun e w' => e = .returned (.bool r) ∧ Below w.heap.size w w' := by
  obtain rfl := Option.some.inj h
  clear h
  have hs := Aside0.mk (fun W => impl_size.calls a0 (a0.size : Int) W rfl)
  by_cases h1 : 1 ≤ a0.size ∧ a0.size ≤ 8
  · have hw0 : impl_within.f (a0.size : Int) 1 8 = some true := by
      unfold impl_within.f; rw [if_pos (by omega), decide_eq_true (by omega)]
    have hw := Aside0.mk (fun W => impl_within.calls (a0.size : Int) 1 8 true W hw0)
    have e1 : ∀ args w, (callFunc 22 args).run Try.prog w = .ok (.enter 22 args) w := Go.Proofs.enters_of Try.func22 (by kernel_rfl) rfl
    have kb := fun W => print_bytes (P := Try.prog) 9 34 5 Try.underlying9 Try.underlying34 Try.underlying5 a0 W
    have hr : isP a0 = (bytesOf a0).all isVar := by unfold isP; rw [decide_eq_true h1.1, decide_eq_true h1.2]; rfl
    rw [hr]
    have hcall : Aside0 (∀ (W : World) (c : Nat), a0.size ≤ c → Calls Try.prog 21 #[.slice (some ⟨W.heap.size, 0, none⟩) a0.size c, .func (.func 22) #[] #[]] (Lib.bytesWorld W 5 a0) fun e w' => e = .returned (.bool ((bytesOf a0).all isVar)) ∧ Below (Lib.bytesWorld W 5 a0).heap.size (Lib.bytesWorld W 5 a0) w') := by
      refine ⟨fun W c hc => ?_⟩
      have h := impl_areAll_byte.calls 0 (some ⟨W.heap.size, 0, none⟩) c (bytesOf a0) (fun c => some (isVar c)) 22 #[] _ (Lib.bytesWorld W 5 a0)
        (by rw [bytesOf_length]; exact Kd.C_of_reads (d := (0 : Int)) (h1 := fun _ => rfl) (bytes_reads W 5 a0 (by omega))) (by rw [bytesOf_length]; exact hc) ⟨e1, IsPattern1 _⟩ (allP_some isVar (bytesOf a0))
      rw [bytesOf_length] at h
      exact h
    clear e1 hw0 h1
    go_enter Try.func9, Try.ntmps9
    go_wp2_with (first
      | (go_at_call 20; (with_reducible refine (hs.out _).mono ?_); rintro e w1 ⟨rfl, hd1⟩; have HB1 := Aside0.mk hd1.below; clear hd1)
      | (go_at_call 19; (with_reducible refine (hw.out _).mono ?_); rintro e w2 ⟨rfl, hd2⟩; have HB2 := Aside0.mk (below_step HB1.out hd2.below); clear hd2)
      | (go_at_call 21; (with_reducible refine (hcall.out _ _ (grownCap_ge _ _ _ _)).mono ?_); rintro e w3 ⟨rfl, hb3⟩))
    go_ret
    exact ⟨rfl, below_step (bytes_below HB2.out HB2.out.size _ _) hb3⟩
  · have hw0 : impl_within.f (a0.size : Int) 1 8 = some false := by
      unfold impl_within.f
      split
      · rw [decide_eq_false (by omega)]
      · rfl
    have hw := Aside0.mk (fun W => impl_within.calls (a0.size : Int) 1 8 false W hw0)
    have hr : isP a0 = false := by
      unfold isP
      rw [show (decide (1 ≤ a0.size) && decide (a0.size ≤ 8)) = false by rw [← Bool.decide_and, decide_eq_false h1]]; rfl
    rw [hr]
    clear hw0 hr
    go_enter Try.func9, Try.ntmps9
    go_wp2_with (first
      | (go_at_call 20; (with_reducible refine (hs.out _).mono ?_); rintro e w1 ⟨rfl, hd1⟩; have HB1 := Aside0.mk hd1.below; clear hd1)
      | (go_at_call 19; (with_reducible refine (hw.out _).mono ?_); rintro e w2 ⟨rfl, hd2⟩; have HB2 := Aside0.mk (below_step HB1.out hd2.below); clear hd2))
    go_ret
    exact ⟨rfl, HB2.out⟩

end Go.Proofs.Ytgoccddcbooabaa.PF
