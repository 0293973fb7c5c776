/- The number of the words with a vector, and the tests of a vector: the program's way and the reference's. -/
import Derived.Test.YtippkbjdifmdnaaPFLibAr
import Derived.Test.YtippkbjdifmdnaaPFx16
import Derived.Test.YtippkbjdifmdnaaPFx8
namespace Go.Proofs.Ytippkbjdifmdnaa.PF
open Go.RowKit Go.Proofs.YtippkbjdifmdnaaW.PrintWords Go.Proofs.YtippkbjdifmdnaaW.PrintLast Go.Proofs.YtippkbjdifmdnaaW.PrintMore
set_option linter.unusedVariables false
set_option linter.unusedSimpArgs false
set_option maxRecDepth 20000

def numIn : Nat → Int → Int → Nat → Int × Int
  | 0, a, n, _ => (a, n)
  | e + 1, a, n, i => numIn e (wrap64 (Int.tdiv (wrap64 (a * (wrap64 (n + 1)))) ((i + 1 : Nat) : Int))) (wrap64 (n + 1)) (i + 1)
def numAll (v : List Int) : Nat → Nat → Int → Int → Int
  | 0, _, a, _ => a
  | e + 1, c, a, n => numAll v e (c + 1) (numIn (rd v (c : Int)).toNat a n 0).1 (numIn (rd v (c : Int)).toNat a n 0).2

theorem spec_nin (v : List Int) (c : Nat) (hc : c < v.length) (m : Nat) (hm : rd v (c : Int) = (m : Int)) (hb : m ≤ 100) (h5 : v.length ≤ 100) (R : Int) : ∀ (e i : Nat) (a n : Int), i + e = m → Ev (fun k => spec_l07Number.l0 k v (numIn e a n i).1 (numIn e a n i).2 ((c + 1 : Nat) : Int)) R →
    Ev (fun k => spec_l07Number.l1 k v a n (c : Int) ((i + 1 : Nat) : Int)) R := by
  intro e
  induction e with
  | zero =>
    intro i a n hi hR
    refine ev_suc ?_
    have a1 : (0 : Int) ≤ (c : Int) := by omega
    have a2 : (c : Int) < (v.length : Int) := by omega
    have a3 : ¬ ((i + 1 : Nat) : Int) ≤ (m : Int) := by omega
    have a4 : wrap64 ((c : Int) + 1) = ((c + 1 : Nat) : Int) := wrap_succ (by omega)
    simp only [spec_l07Number.l1, a1, a2, hm, a3, a4, if_true, if_false]
    exact hR
  | succ e ih =>
    intro i a n hi hR
    have h' := ih (i + 1) (wrap64 (Int.tdiv (wrap64 (a * (wrap64 (n + 1)))) ((i + 1 : Nat) : Int))) (wrap64 (n + 1)) (by omega) hR
    refine ev_suc ?_
    have a1 : (0 : Int) ≤ (c : Int) := by omega
    have a2 : (c : Int) < (v.length : Int) := by omega
    have a3 : ((i + 1 : Nat) : Int) ≤ (m : Int) := by omega
    have a5 : ¬ ((i + 1 : Nat) : Int) = 0 := by omega
    have a4 : wrap64 (((i + 1 : Nat) : Int) + 1) = ((i + 1 + 1 : Nat) : Int) := wrap_succ (by omega)
    simp only [spec_l07Number.l1, a1, a2, hm, a3, a4, a5, if_true, if_false]
    exact h'

theorem impl_nin (v : List Int) (c : Nat) (hc : c < v.length) (m : Nat) (hb : m ≤ 100) (h5 : v.length ≤ 100) (R : Int) : ∀ (e i : Nat) (a n : Int), i + e = m → Ev (fun k => impl_arrangements.l0 k (numIn e a n i).1 (numIn e a n i).2 v (v.length : Int) ((c + 1 : Nat) : Int)) R →
    Ev (fun k => impl_arrangements.l1 k a n v (v.length : Int) (c : Int) (m : Int) (i : Int)) R := by
  intro e
  induction e with
  | zero =>
    intro i a n hi hR
    refine ev_suc ?_
    have a3 : ¬ (i : Int) < (m : Int) := by omega
    have a4 : wrap64 ((c : Int) + 1) = ((c + 1 : Nat) : Int) := wrap_succ (by omega)
    simp only [impl_arrangements.l1, a3, a4, if_true, if_false]
    exact hR
  | succ e ih =>
    intro i a n hi hR
    have h' := ih (i + 1) (wrap64 (Int.tdiv (wrap64 (a * (wrap64 (n + 1)))) ((i + 1 : Nat) : Int))) (wrap64 (n + 1)) (by omega) hR
    refine ev_suc ?_
    have a3 : (i : Int) < (m : Int) := by omega
    have a5 : ¬ ((i + 1 : Nat) : Int) = 0 := by omega
    have a4 : wrap64 ((i : Int) + 1) = ((i + 1 : Nat) : Int) := wrap_succ (by omega)
    simp only [impl_arrangements.l1, a3, a4, a5, if_true, if_false]
    exact h'

theorem spec_num (v : List Int) (hv : v.length = 5) (h8 : ∀ x ∈ v, 0 ≤ x ∧ x ≤ 8) : ∀ (e c : Nat) (a n : Int), c + e = 5 → Ev (fun k => spec_l07Number.l0 k v a n (c : Int)) (numAll v e c a n) := by
  intro e
  induction e with
  | zero =>
    intro c a n hc
    refine ev_suc ?_
    have a1 : ¬ (c : Int) < (v.length : Int) := by omega
    simp only [spec_l07Number.l0, a1, if_false]
    exact ev_of rfl
  | succ e ih =>
    intro c a n hc
    have hcl : c < v.length := by omega
    have hx := h8 _ (List.getElem_mem hcl)
    have hr : rd v (c : Int) = v[c] := rd_nat v c hcl
    obtain ⟨m, hm⟩ : ∃ m : Nat, v[c] = (m : Int) := ⟨v[c].toNat, by omega⟩
    have hm8 : m ≤ 100 := by omega
    have hm2 : rd v (c : Int) = (m : Int) := hr.trans hm
    have hi := ih (c + 1) (numIn m a n 0).1 (numIn m a n 0).2 (by omega)
    refine ev_suc ?_
    have a1 : (c : Int) < (v.length : Int) := by omega
    simp only [spec_l07Number.l0, a1, if_true]
    refine spec_nin v c hcl m hm2 hm8 (by omega) _ m 0 a n (Nat.zero_add _) (ev_congr hi ?_)
    rw [numAll, hm2, Int.toNat_natCast]

theorem impl_num (v : List Int) (hv : v.length = 5) (h8 : ∀ x ∈ v, 0 ≤ x ∧ x ≤ 8) : ∀ (e c : Nat) (a n : Int), c + e = 5 → Ev (fun k => impl_arrangements.l0 k a n v (v.length : Int) (c : Int)) (numAll v e c a n) := by
  intro e
  induction e with
  | zero =>
    intro c a n hc
    refine ev_suc ?_
    have a1 : ¬ (c : Int) < (v.length : Int) := by omega
    simp only [impl_arrangements.l0, a1, if_false]
    exact ev_of rfl
  | succ e ih =>
    intro c a n hc
    have hcl : c < v.length := by omega
    have hx := h8 _ (List.getElem_mem hcl)
    have hr : rd v (c : Int) = v[c] := rd_nat v c hcl
    obtain ⟨m, hm⟩ : ∃ m : Nat, v[c] = (m : Int) := ⟨v[c].toNat, by omega⟩
    have hm8 : m ≤ 100 := by omega
    have hm2 : rd v (c : Int) = (m : Int) := hr.trans hm
    have hi := ih (c + 1) (numIn m a n 0).1 (numIn m a n 0).2 (by omega)
    refine ev_suc ?_
    have a1 : (c : Int) < (v.length : Int) := by omega
    have a0 : (0 : Int) ≤ (c : Int) := by omega
    simp only [impl_arrangements.l0, a0, a1, if_true, hm2]
    refine impl_nin v c hcl m hm8 (by omega) _ m 0 a n (Nat.zero_add _) (ev_congr hi ?_)
    rw [numAll, hm2, Int.toNat_natCast]

/-- Is a number one of a vector? -/
def inV (x : Int) : Bool := decide (0 ≤ x) && decide (x ≤ 8)
theorem vec_in (x : Int) : spec_l01In.f x 0 8 = some (inV x) := by
  unfold spec_l01In.f inV
  by_cases h : (0 : Int) ≤ x
  · rw [if_pos h, decide_eq_true h, Bool.true_and]
  · rw [if_neg h, decide_eq_false h, Bool.false_and]
theorem vec_in' (x : Int) : impl_WordsWith_1.f x = some (inV x) := by
  unfold impl_WordsWith_1.f impl_within.f inV
  by_cases h : (0 : Int) ≤ x
  · rw [if_pos h, decide_eq_true h, Bool.true_and]; rfl
  · rw [if_neg h, decide_eq_false h, Bool.false_and]; rfl
theorem inV_iff (x : Int) : inV x = true ↔ 0 ≤ x ∧ x ≤ 8 := by simp [inV]

/-- What is returned of a vector whose numbers are good. -/
def resV (v : List Int) : List ByteArray × Int := if v.sum > 8 then ([], 2) else if numAll v 5 0 1 0 > 300 then ([], 3) else (wds v.sum.toNat v, 0)

theorem resV_small (v : List Int) : (resV v).1.length ≤ 400000 := by
  unfold resV
  split
  · exact Nat.zero_le _
  · split
    · exact Nat.zero_le _
    · exact wds_small (by omega) v

theorem sum_nn : ∀ v : List Int, (∀ x ∈ v, 0 ≤ x ∧ x ≤ 8) → 0 ≤ v.sum
  | [], _ => by simp
  | x :: v, h => by
    have := sum_nn v fun y hy => h y (List.mem_cons_of_mem _ hy)
    have := h x List.mem_cons_self
    rw [List.sum_cons]; omega

theorem spec_vl (v : List Int) (hv : v.length = 5) : ∀ (e i : Nat) (acc : Int), i + e = 5 → 0 ≤ acc → acc ≤ 8 * i → ((∀ x ∈ v.drop i, 0 ≤ x ∧ x ≤ 8) → (∀ x ∈ v, 0 ≤ x ∧ x ≤ 8) ∧ acc + (v.drop i).sum = v.sum) →
    Ev (fun k => spec_WordsWith.l0 k v acc (i : Int)) (if (v.drop i).all inV = true then resV v else ([], 2)) := by
  intro e
  induction e with
  | zero =>
    intro i acc hi h0 h1 hh
    refine ev_suc ?_
    have hd : v.drop i = [] := List.drop_eq_nil_of_le (by omega)
    rw [hd] at hh ⊢
    obtain ⟨g1, g2⟩ := hh (by simp)
    have g3 : acc = v.sum := by rw [List.sum_nil] at g2; omega
    subst g3
    have a1 : ¬ (i : Int) < (v.length : Int) := by omega
    simp only [spec_WordsWith.l0, a1, if_false, List.all_nil, if_true]
    unfold resV
    by_cases c1 : v.sum > 8
    · simp only [c1, if_true]; exact ev_of rfl
    · simp only [c1, if_false]
      have hn : Ev (fun k => spec_l07Number.f k v) (numAll v 5 0 1 0) := by
        unfold spec_l07Number.f; exact spec_num v hv g1 5 0 1 0 rfl
      refine ev_bnd hn ?_
      by_cases c2 : numAll v 5 0 1 0 > 300
      · simp only [c2, if_true]; exact ev_of rfl
      · simp only [c2, if_false]
        have hw := spec_words v.sum.toNat (by omega) v (⟨#[]⟩ : ByteArray) ⟨hv, g1, by omega⟩ (by show 0 + v.sum.toNat ≤ 100; omega)
        refine ev_bnd hw (ev_of ?_)
        rw [show (fun x => (⟨#[]⟩ : ByteArray) ++ x) = (fun x => x) from funext fun x => ByteArray.empty_append, List.map_id']
  | succ e ih =>
    intro i acc hi h0 h1 hh
    have hil : i < v.length := by omega
    rw [List.drop_eq_getElem_cons hil] at hh ⊢
    have a1 : (i : Int) < (v.length : Int) := by omega
    have a2 : (0 : Int) ≤ (i : Int) := by omega
    have a3 : rd v (i : Int) = v[i] := rd_nat v i hil
    by_cases c : inV v[i] = true
    · have hx := (inV_iff _).1 c
      have h' := ih (i + 1) (acc + v[i]) (by omega) (by omega) (by omega) (fun h => by
        obtain ⟨g1, g2⟩ := hh (fun x hx' => by
          rcases List.mem_cons.1 hx' with e | hm
          · rw [e]; exact hx
          · exact h x hm)
        exact ⟨g1, by rw [List.sum_cons] at g2; omega⟩)
      have a5 : wrap64 (acc + v[i]) = acc + v[i] := wrap_id (by omega) (by omega)
      have a4 : wrap64 ((i : Int) + 1) = ((i + 1 : Nat) : Int) := wrap_succ (by omega)
      refine ev_suc ?_
      simp only [spec_WordsWith.l0, a1, a2, a3, if_true, vec_in, Option.bind_some, c, a4, a5, List.all_cons, Bool.true_and]
      exact h'
    · have c' : inV v[i] = false := by simpa using c
      refine ev_suc ?_
      simp only [spec_WordsWith.l0, a1, a2, a3, if_true, vec_in, Option.bind_some, c', Bool.false_eq_true, if_false, List.all_cons, Bool.false_and]
      exact ev_of rfl

theorem impl_vl (v : List Int) (hv : v.length = 5) (h8 : ∀ x ∈ v, 0 ≤ x ∧ x ≤ 8) : ∀ (e i : Nat) (acc : Int), i + e = 5 → 0 ≤ acc → acc ≤ 8 * i → acc + (v.drop i).sum = v.sum →
    Ev (fun k => impl_WordsWith.l0 k v acc v (v.length : Int) (i : Int)) (resV v) := by
  intro e
  induction e with
  | zero =>
    intro i acc hi h0 h1 hh
    refine ev_suc ?_
    have hd : v.drop i = [] := List.drop_eq_nil_of_le (by omega)
    rw [hd] at hh
    have g3 : acc = v.sum := by rw [List.sum_nil] at hh; omega
    subst g3
    have a1 : ¬ (i : Int) < (v.length : Int) := by omega
    simp only [impl_WordsWith.l0, a1, if_false]
    unfold resV
    by_cases c1 : v.sum > 8
    · simp only [c1, if_true]; exact ev_of rfl
    · simp only [c1, if_false]
      have hn : Ev (fun k => impl_arrangements.f k v) (numAll v 5 0 1 0) := by
        unfold impl_arrangements.f; exact impl_num v hv h8 5 0 1 0 rfl
      refine ev_bnd hn ?_
      by_cases c2 : numAll v 5 0 1 0 > 300
      · simp only [c2, if_true]; exact ev_of rfl
      · simp only [c2, if_false]
        have hw := impl_words v.sum.toNat (by omega) v ⟨hv, h8, by omega⟩
        exact ev_bnd hw (ev_of rfl)
  | succ e ih =>
    intro i acc hi h0 h1 hh
    have hil : i < v.length := by omega
    rw [List.drop_eq_getElem_cons hil, List.sum_cons] at hh
    have hx := h8 _ (List.getElem_mem hil)
    have h' := ih (i + 1) (acc + v[i]) (by omega) (by omega) (by omega) (by omega)
    have a1 : (i : Int) < (v.length : Int) := by omega
    have a2 : (0 : Int) ≤ (i : Int) := by omega
    have a3 : rd v (i : Int) = v[i] := rd_nat v i hil
    have a5 : wrap64 (acc + v[i]) = acc + v[i] := wrap_id (by omega) (by omega)
    have a4 : wrap64 ((i : Int) + 1) = ((i + 1 : Nat) : Int) := wrap_succ (by omega)
    refine ev_suc ?_
    simp only [impl_WordsWith.l0, a1, a2, a3, if_true, a4, a5]
    exact h'

theorem words_with (v : List Int) : ∃ r : List ByteArray × Int, r.1.length ≤ 400000 ∧ Ev (fun k => spec_WordsWith.f k v) r ∧ Ev (fun k => impl_WordsWith.f k v) r := by
  unfold spec_WordsWith.f impl_WordsWith.f
  by_cases hv : (v.length : Int) = 5
  · have hv' : v.length = 5 := by omega
    simp only [hv, if_true]
    have hall : ∀ k, impl_areAll_int64.f k v (fun z0_ => impl_WordsWith_1.f z0_) = some (v.all inV) := fun k => allP_mem' _ inV v fun x _ => vec_in' x
    have hs := spec_vl v hv' 5 0 0 rfl (by omega) (by omega) (fun h => ⟨by rw [List.drop_zero] at h; exact h, by rw [List.drop_zero]; omega⟩)
    rw [List.drop_zero] at hs
    simp only [hall, Option.bind_some]
    by_cases c : v.all inV = true
    · rw [if_pos c] at hs
      have h8 : ∀ x ∈ v, 0 ≤ x ∧ x ≤ 8 := fun x hx => (inV_iff x).1 (List.all_eq_true.1 c x hx)
      have hi := impl_vl v hv' h8 5 0 0 rfl (by omega) (by omega) (by rw [List.drop_zero]; omega)
      refine ⟨resV v, resV_small v, hs, ?_⟩
      refine ev_suc ?_
      simp only [c, Bool.not_true, impl_WordsWith.j0, Bool.false_eq_true, if_false]
      exact hi
    · rw [if_neg c] at hs
      have c' : v.all inV = false := by simpa using c
      refine ⟨([], 2), Nat.zero_le _, hs, ?_⟩
      refine ev_suc ?_
      simp only [c', Bool.not_false, impl_WordsWith.j0, if_true]
      exact ev_of rfl
  · simp only [hv, if_false]
    refine ⟨([], 2), Nat.zero_le _, ev_of rfl, ?_⟩
    refine ev_suc ?_
    simp only [impl_WordsWith.j0, if_true]
    exact ev_of rfl

end Go.Proofs.Ytippkbjdifmdnaa.PF
