/- The law PromiseOfAll answers true for all words and numbers: periods of reversed words, powers, roots and closures are as it says. -/
import Derived.Test.YtidndnjkjjcbbaaPFLibPr
import Derived.Test.YtidndnjkjjcbbaaPFx4
namespace Go.Proofs.Ytidndnjkjjcbbaa.Pure
open Go.RowKit Go.Proofs.Ytidndnjkjjcbbaa.PF Go.Proofs.YtidndnjkjjcbbaaW.PrintWords Go.Proofs.YtidndnjkjjcbbaaW.PrintLast
set_option linter.unusedSimpArgs false
set_option linter.unusedVariables false
set_option maxRecDepth 20000

theorem j5_ev {w : ByteArray} (h : isW w = true) (h0 : 0 < w.size) : Ev (fun k => laws_FnPromiseOfAll.j5 k w) true := by
  obtain ⟨v, h1, h2, h3, h4, h5, h6⟩ := clo_ev h h0
  refine ev_suc ?_
  simp only [laws_FnPromiseOfAll.j5]
  refine ev_bnd h5 (ev_bnd h6 ?_)
  by_cases hv : v.size > 60
  · simp only [hv, if_true, show ¬ ((3 : Int) = 0) by omega, if_false]; exact ev_of rfl
  · simp only [hv, if_true, if_false]
    have hpal : Ev (fun k => impl_IsPalindrome.f k v) (true, 0) := by
      unfold impl_IsPalindrome.f
      simp only [always_f, Option.bind_some, codeW_one (h4 (by omega)), if_true, isPal_f v (by omega), h1]
      exact ev_of rfl
    refine ev_bnd hpal ?_
    simp only [if_true, show (v.size : Int) ≥ (w.size : Int) by omega, show (w.size : Int) ≤ (v.size : Int) by omega, show (0 : Int) ≤ (w.size : Int) by omega, Int.toNat_natCast, h3]
    exact ev_of (by simp)

theorem j4_ev {w : ByteArray} (h : isW w = true) (h0 : 0 < w.size) (t : Nat) (ht : 0 < t) (hm : w.size * t ≤ 60) : Ev (fun k => laws_FnPromiseOfAll.j4 k w (t : Int) (w.size : Int) (rep w t) true) true := by
  have hs := isW_size h
  obtain ⟨r, j, h1, h2, h3, h4⟩ := power_root h h0 t ht hm
  have hsz := rep_size' w t
  have hle : w.size * 1 ≤ w.size * t := Nat.mul_le_mul_left _ ht
  have hlp := prs_length (rep w t) (rep w t).size 1
  refine ev_suc ?_
  simp only [laws_FnPromiseOfAll.j4, if_true]
  refine ev_bnd (iPeriodsOf_ev (isW_rep h t hm)) (ev_bnd h1 ?_)
  simp only [if_true]
  refine ev_bnd (has_ev (prsOf (rep w t)) (w.size : Int) (by unfold prsOf; omega) ?_) ?_
  · exact mem_prs _ _ (per_rep w t ht) _ _ (by omega) (by rw [hsz]; omega)
  · have e1 : wrap64 ((r.size : Int) * (j : Int)) = ((w.size * t : Nat) : Int) := wrap_nat (by rw [← h2, Int.natCast_mul]) (by omega)
    have e2 : wrap64 ((t : Int) * (w.size : Int)) = ((w.size * t : Nat) : Int) := wrap_nat (by rw [Int.natCast_mul, Int.mul_comm]) (by omega)
    have e3 : ¬ ((t : Int) = 0) := by omega
    have e4 : Int.tmod (j : Int) (t : Int) = 0 := by
      have : Int.tmod (j : Int) (t : Int) = ((j % t : Nat) : Int) := rfl
      rw [this, h3]; rfl
    simp only [if_true, e1, e2, e3, if_false, e4]
    exact j5_ev h h0

theorem FnPromiseOfAll : laws_FnPromiseOfAll.Pure := by
  intro w t hw ht
  refine ev_get ?_
  unfold laws_FnPromiseOfAll.f
  by_cases hgw : (w.size : Int) > 100000
  · simp only [hgw, if_true]; exact ev_of rfl
  simp only [hgw, if_false]
  have hl := l01Is_ev w (by omega)
  by_cases h : isW w = true
  · have hs := isW_size h
    rw [h] at hl
    have b1 : Ev (fun k => impl_ReverseOf.f k w) (rev w, 0) := by
      unfold impl_ReverseOf.f
      simp only [always_f, Option.bind_some, codeW_one h, if_true, reversed_f w (by omega)]
      exact ev_of rfl
    have b2 : Ev (fun k => spec_ReverseOf.f k w) (rev w, 0) := by
      unfold spec_ReverseOf.f
      refine ev_bnd hl ?_
      simp only [if_true]
      exact ev_bnd (srev_ev w (by omega)) (ev_of rfl)
    have b3 := iPeriodsOf_ev h
    have b4 : Ev (fun k => spec_PeriodsOf.f k w) (prsOf w, 0) := by
      unfold spec_PeriodsOf.f
      refine ev_bnd hl ?_
      simp only [if_true]
      exact ev_bnd (sper_ev w (by omega)) (ev_of rfl)
    have hlen := prs_length w w.size 1
    have hlike := like_ev (prsOf w) (by unfold prsOf; omega)
    refine ev_bnd b1 (ev_bnd b2 (ev_bnd b3 (ev_bnd b4 ?_)))
    simp only [if_true]
    refine ev_bnd hlike ?_
    refine ev_suc ?_
    simp only [laws_FnPromiseOfAll.j0, Bool.not_true, Bool.false_eq_true, if_false, if_true]
    refine ev_suc ?_
    by_cases h0 : 0 < w.size
    · have e0 : ((w.size : Int) == 0) = false := beq_eq_false_iff_ne.2 (by omega)
      simp only [laws_FnPromiseOfAll.j1, e0, Bool.false_eq_true, if_false]
      have b5 : Ev (fun k => impl_PeriodsOf.f k (rev w)) (prsOf w, 0) := by
        have := iPeriodsOf_ev (isW_rev h)
        unfold prsOf at this ⊢
        rw [sz_rev, prs_congr (per_rev w)] at this
        exact this
      refine ev_bnd b5 ?_
      simp only [if_true]
      refine ev_bnd hlike ?_
      obtain ⟨m, hm⟩ : ∃ m, w.size = m + 1 := ⟨w.size - 1, by omega⟩
      have hlast : prsOf w = prs w m 1 ++ [(w.size : Int)] := by
        unfold prsOf
        rw [hm, prs_last w m 1, show 1 + m = w.size by omega, per_all, if_pos rfl, hm]
      have hl2 : (prsOf w).length = (prs w m 1).length + 1 := by rw [hlast]; simp
      have e1 : ¬ (((prsOf w).length : Int) = 0) := by omega
      have e2 : wrap64 (((prsOf w).length : Int) - 1) = (((prs w m 1).length : Nat) : Int) := by
        have : (prsOf w).length ≤ 60 := by unfold prsOf; omega
        rw [wrap_id (by omega) (by omega)]; omega
      have e3 : rd (prsOf w) (((prs w m 1).length : Nat) : Int) = (w.size : Int) := by
        rw [rd_nat _ _ (by omega)]; simp [hlast]
      have e4 : (((w.size : Int)) != (w.size : Int)) = false := bne_false _
      simp only [if_true, e1, if_false, e2, e3, e4, show (0 : Int) ≤ (((prs w m 1).length : Nat) : Int) by omega, show (((prs w m 1).length : Nat) : Int) < ((prsOf w).length : Int) by omega]
      refine ev_suc ?_
      simp only [laws_FnPromiseOfAll.j2, Bool.false_eq_true, if_false]
      obtain ⟨p1, p2⟩ := pow_ev h h0 t
      refine ev_bnd p1 (ev_bnd p2 ?_)
      have e5 : ∀ l : List UInt8, (l != l) = false := fun l => bne_false l
      simp only [if_true, e5]
      refine ev_suc ?_
      simp only [laws_FnPromiseOfAll.j3, Bool.false_eq_true, if_false]
      have hj5 : ∀ x : ByteArray, Ev (fun k => laws_FnPromiseOfAll.j4 k w t (w.size : Int) x false) true := fun x => by
        refine ev_suc ?_
        simp only [laws_FnPromiseOfAll.j4, Bool.false_eq_true, if_false]
        exact j5_ev h h0
      by_cases hp : inP t = true
      · have hr := hp
        simp only [inP, Bool.and_eq_true, decide_eq_true_eq] at hr
        obtain ⟨n, rfl⟩ : ∃ n : Nat, t = n := ⟨t.toNat, by omega⟩
        by_cases hbig : w.size * n > 60
        · have e : powV w (n : Int) = (⟨#[]⟩, 3) := by simp [powV, hp, hbig]
          simp only [e, show ¬ ((3 : Int) = 0) by omega, if_false]
          exact hj5 _
        · have e : powV w (n : Int) = (rep w n, 0) := by simp [powV, hp, hbig]
          simp only [e, if_true]
          by_cases hn : 0 < n
          · have e6 : decide ((n : Int) > 0) = true := decide_eq_true (by omega)
            simp only [e6]
            exact j4_ev h h0 n hn (by omega)
          · have e6 : decide ((n : Int) > 0) = false := decide_eq_false (by omega)
            simp only [e6]
            exact hj5 _
      · have e : powV w t = (⟨#[]⟩, 2) := by simp [powV, hp]
        simp only [e, show ¬ ((2 : Int) = 0) by omega, if_false]
        exact hj5 _
    · have e0 : ((w.size : Int) == 0) = true := beq_iff_eq.2 (by omega)
      simp only [laws_FnPromiseOfAll.j1, e0, if_true]
      exact ev_of rfl
  · have h' : isW w = false := by simpa using h
    rw [h'] at hl
    have hc : codeW true [w] = 1 := by simp [codeW, h']
    have b1 : Ev (fun k => impl_ReverseOf.f k w) (⟨#[]⟩, 1) := by
      unfold impl_ReverseOf.f
      simp only [always_f, Option.bind_some, hc, show ¬ ((1 : Int) = 0) by omega, if_false]
      exact ev_of rfl
    have b2 : Ev (fun k => spec_ReverseOf.f k w) (⟨#[]⟩, 1) := by
      unfold spec_ReverseOf.f
      refine ev_bnd hl ?_
      simp only [Bool.false_eq_true, if_false]
      exact ev_of rfl
    have b3 : Ev (fun k => impl_PeriodsOf.f k w) ([], 1) := by
      unfold impl_PeriodsOf.f
      simp only [always_f, Option.bind_some, hc, show ¬ ((1 : Int) = 0) by omega, if_false]
      exact ev_of rfl
    have b4 : Ev (fun k => spec_PeriodsOf.f k w) ([], 1) := by
      unfold spec_PeriodsOf.f
      refine ev_bnd hl ?_
      simp only [Bool.false_eq_true, if_false]
      exact ev_of rfl
    refine ev_bnd b1 (ev_bnd b2 (ev_bnd b3 (ev_bnd b4 ?_)))
    simp only [if_true]
    refine ev_bnd (like_ev [] (by simp)) ?_
    refine ev_suc ?_
    simp only [laws_FnPromiseOfAll.j0, Bool.not_true, Bool.false_eq_true, if_false, if_true, show ¬ ((1 : Int) = 0) by omega]
    refine ev_suc ?_
    simp only [laws_FnPromiseOfAll.j1, if_true]
    exact ev_of rfl

end Go.Proofs.Ytidndnjkjjcbbaa.Pure
