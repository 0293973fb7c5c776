/- Given for the print: is a word privileged, by hand: the function hands itself to a search in a row of words. -/
import Derived.Test.YtjmcffejpgblfaaPFGivA
import Derived.Test.YtjmcffejpgblfaaPFx4
namespace Go.Proofs.Ytjmcffejpgblfaa.PF
open Go.RowKit Go.Proofs.YtjmcffejpgblfaaW.PrintWords Go.Proofs.YtjmcffejpgblfaaW.PrintLast Go.Proofs.YtjmcffejpgblfaaW.PrintMore
set_option linter.unusedVariables false
set_option linter.unusedSimpArgs false

theorem idxP_mono {α : Type} {p p' : α → Option Bool} (h : ∀ x, LeO (p x) (p' x)) : ∀ (l : List α) i, LeO (idxP p i l) (idxP p' i l)
  | [], _ => LeO.refl _
  | x :: l, i => LeO.bind (h x) fun b => LeO.ite (LeO.refl _) (idxP_mono h l (i + 1))

/-- Is it privileged? (k: how deep the question goes) -/
def impl_isPrivileged.f : Nat → ByteArray → Option Bool
  | 0, _ => none
  | k + 1, w => if w.size ≤ 1 then some true else (impl_returns.f k w).bind fun l => (idxP (impl_isPrivileged.f k) 0 l).bind fun j => some (decide (0 ≤ j))

theorem impl_isPrivileged.mono : ∀ a0 k, LeO (impl_isPrivileged.f k a0) (impl_isPrivileged.f (k + 1) a0) := by
  intro a0 k
  induction k generalizing a0 with
  | zero => exact LeO.none _
  | succ k ih => exact LeO.ite (LeO.refl _) (LeO.bind (impl_returns.mono _ _) fun l => LeO.bind (idxP_mono (fun x => ih x) l 0) fun _ => LeO.refl _)

set_option maxHeartbeats 4000000 in
theorem impl_isPrivileged.calls (k : Nat) : ∀ (a0 : ByteArray) (r : Bool) (w : World), impl_isPrivileged.f k a0 = some r →
    Calls Try.prog 40 #[.string a0] w fun e w' => e = .returned (.bool r) ∧ Below w.heap.size w w' := by
  induction k with
  | zero => intro a0 r w h; cases h
  | succ k ih =>
    intro a0 r w h
    simp only [impl_isPrivileged.f] at h
    by_cases h1 : a0.size ≤ 1
    · rw [if_pos h1, Option.some.injEq] at h
      subst h
      have h1b : decide (a0.size ≤ 1) = true := decide_eq_true h1
      have h1c : decide ((a0.size : Int) ≤ 1) = true := decide_eq_true (by omega)
      clear ih
      go_enter Try.func40, Try.ntmps40
      go_wp2
      go_ret
      exact ⟨rfl, Below.refl _ _⟩
    · rw [if_neg h1] at h
      obtain ⟨l, hl, h⟩ := Option.bind_eq_some_iff.mp h
      obtain ⟨j, hj, h⟩ := Option.bind_eq_some_iff.mp h
      obtain rfl := Option.some.inj h
      have h1b : decide (a0.size ≤ 1) = false := decide_eq_false h1
      have h1c : decide ((a0.size : Int) ≤ 1) = false := decide_eq_false (by omega)
      have e1 : Aside0 (∀ args w, (callFunc 40 args).run Try.prog w = .ok (.enter 40 args) w) := ⟨Go.Proofs.enters_of Try.func40 (by kernel_rfl) rfl⟩
      have hcall := Aside0.mk (impl_returns.calls k a0 l w hl)
      have HI := Aside0.mk ih
      have HJ := Aside0.mk hj
      clear ih hl hj h
      go_enter Try.func40, Try.ntmps40
      go_wp2_with (first
        | (go_at_call 54; (with_reducible refine hcall.out.mono ?_); rintro e w1 ⟨v, rfl, ho, hb⟩; obtain ⟨A, c, rfl⟩ := Kd.R_slice ho; have HO := Aside0.mk ho; have HB := Aside0.mk hb; clear ho hb)
        | (go_at_call 56; (refine (ContainsFuncS (impl_isPrivileged.f k) 40 #[] A c l j _ e1.out (Kd.R_reads' HO.out).2.2 (Kd.R_reads' HO.out).2.1 (fun x W _ r hr => HI.out x r W hr) HJ.out).mono ?_); rintro e w2 ⟨rfl, hb2⟩; have HB2 := Aside0.mk (HB.out.trans (hb2.mono HB.out.size)); clear hb2))
      go_ret
      exact ⟨rfl, HB2.out⟩

end Go.Proofs.Ytjmcffejpgblfaa.PF
