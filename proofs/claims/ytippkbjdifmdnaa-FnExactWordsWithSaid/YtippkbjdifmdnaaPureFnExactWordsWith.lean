/- The program's WordsWith and the reference's WordsWith return the same words and the same code, and the program leaves the vector as it was; what it returned stays as it was marked. -/
import Derived.Test.YtippkbjdifmdnaaPFLibAn
import Derived.Test.YtippkbjdifmdnaaPFLibT
import Derived.Test.YtippkbjdifmdnaaPFLibS
import Derived.Test.YtippkbjdifmdnaaPFx22
namespace Go.Proofs.Ytippkbjdifmdnaa.Pure
open Go.RowKit Go.Proofs.Ytippkbjdifmdnaa.PF Go.Proofs.YtippkbjdifmdnaaW.PrintWords Go.Proofs.YtippkbjdifmdnaaW.PrintLast
set_option linter.unusedSimpArgs false
set_option linter.unusedVariables false
set_option maxRecDepth 20000

theorem markI_loop : ∀ (d i : Nat) (l : List Int), i + d = l.length → l.length ≤ 4000000000000 → ∃ r, Ev (fun k => laws_markInt64S.l0 k l ((i + 1 : Nat) : Int) (i : Int)) (((l.length + 1 : Nat) : Int), r) := by
  intro d
  induction d with
  | zero =>
    intro i l hd hl
    obtain rfl : i = l.length := by omega
    refine ⟨l, ev_suc ?_⟩
    simp only [laws_markInt64S.l0, Int.lt_irrefl, if_false]
    exact ev_of rfl
  | succ d ih =>
    intro i l hd hl
    have a1 : (i : Int) < (l.length : Int) := by omega
    have a2 : (0 : Int) ≤ (i : Int) := by omega
    have a3 : wrap64 ((i : Int) + 1) = ((i + 1 : Nat) : Int) := wrap_succ (by omega)
    have a4 : wrap64 (((i + 1 : Nat) : Int) + 1) = ((i + 1 + 1 : Nat) : Int) := wrap_succ (by omega)
    obtain ⟨r, hr⟩ := ih (i + 1) (l.set i ((i + 1 : Nat) : Int)) (by rw [List.length_set]; omega) (by rw [List.length_set]; exact hl)
    rw [List.length_set] at hr
    refine ⟨r, ev_suc ?_⟩
    simp only [laws_markInt64S.l0, a1, a2, if_true, a3, a4, Int.toNat_natCast]
    exact hr

theorem FnExactWordsWith : laws_FnExactWordsWith.Pure := by
  intro l hl1 hl2 hl3
  refine ev_get ?_
  unfold laws_FnExactWordsWith.f
  by_cases hgl : (l.length : Int) > 1048576
  · simp only [hgl, if_true]; exact ev_of rfl
  simp only [hgl, if_false]
  have hto := toI_ev l (by omega)
  obtain ⟨r, hr, h1, h2⟩ := words_with l
  have hr' : r.1.length ≤ 4000000000000 := by omega
  obtain ⟨q, m1, m2⟩ := markS_ev r.1 hr'
  obtain ⟨q2, m3⟩ := markI_loop l.length 0 l (Nat.zero_add _) (by omega)
  have m3' : Ev (fun k => laws_markInt64S.f k l 1) (((l.length + 1 : Nat) : Int), q2) := by unfold laws_markInt64S.f; exact m3
  have n1 : ¬ ((l.length + 1 : Nat) : Int) < 0 := by omega
  have n2 : ¬ ((r.1.length : Int) + 1 < 0) := by omega
  refine ev_bnd hto (ev_bnd h1 (ev_bnd hto (ev_bnd h2 (ev_bnd (eqS_ev r.1 hr') ?_))))
  simp only [if_true, bne_false]
  refine ev_suc ?_
  simp only [laws_FnExactWordsWith.j0, Bool.false_eq_true, if_false]
  refine ev_bnd hto (ev_bnd (eqI_ev l (by omega)) ?_)
  simp only [if_true]
  refine ev_bnd m3' ?_
  simp only [n1, if_false]
  refine ev_bnd (eqS_ev r.1 hr') ?_
  simp only [if_true, bne_false]
  refine ev_suc ?_
  simp only [laws_FnExactWordsWith.j1, Bool.false_eq_true, if_false]
  refine ev_bnd m1 (ev_bnd m2 ?_)
  simp only [n2, if_false, if_true]
  refine ev_bnd hto (ev_bnd h2 (ev_bnd (eqS_ev r.1 hr') ?_))
  simp only [if_true, bne_false]
  refine ev_suc ?_
  simp only [laws_FnExactWordsWith.j2, Bool.false_eq_true, if_false]
  refine ev_bnd m2 ?_
  simp only [n2, if_false, if_true]
  exact ev_of rfl

end Go.Proofs.Ytippkbjdifmdnaa.Pure
