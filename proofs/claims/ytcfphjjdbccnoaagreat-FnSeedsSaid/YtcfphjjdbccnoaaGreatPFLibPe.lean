/- The periods of a word, and lists that hold a number. -/
import Derived.Test.YtcfphjjdbccnoaaGreatPFLibW
import Derived.Test.YtcfphjjdbccnoaaGreatPFx8
import Derived.Test.YtcfphjjdbccnoaaGreatPFx3
namespace Go.Proofs.YtcfphjjdbccnoaaGreat.PF
open Go.RowKit Go.Proofs.YtcfphjjdbccnoaaGreatW.PrintWords Go.Proofs.YtcfphjjdbccnoaaGreatW.PrintLast Go.Proofs.YtcfphjjdbccnoaaGreatW.PrintMore
set_option linter.unusedVariables false
set_option linter.unusedSimpArgs false
set_option maxRecDepth 20000

theorem tl_len (a : ByteArray) : a.toList.length = a.size := by rw [toList_eq, Array.length_toList]; rfl
theorem tl_extract (a : ByteArray) (i j : Nat) : (a.extract i j).toList = (a.toList.take j).drop i := by
 rw [toList_eq, toList_eq]
 simp only [ByteArray.data_extract, Array.toList_extract, List.extract_eq_take_drop, List.drop_take]
theorem tl_append (a b : ByteArray) : (a ++ b).toList = a.toList ++ b.toList := by
 rw [toList_eq, toList_eq, toList_eq, ByteArray.data_append, Array.toList_append]
theorem codeW_one {a : ByteArray} (h : isW a = true) : codeW true [a] = 0 := by simp [codeW, h]

theorem always_f (k : Nat) (a : ByteArray) : impl_wordCode.f k impl_always.f [a] = some (codeW true [a]) := by
 have : impl_always.f = some true := rfl
 rw [this]; exact wordCode_f k true [a]

def perB (a : ByteArray) (p : Nat) : Bool := decide (a.toList.drop p = a.toList.take (a.size - p))
theorem hasPeriod_f (a : ByteArray) (ha : a.size ≤ 1000000) (p : Nat) (hp : p ≤ a.size) : impl_hasPeriod.f a (p : Int) = some (perB a p) := by
 unfold impl_hasPeriod.f
 have e : wrap64 ((a.size : Int) - (p : Int)) = ((a.size - p : Nat) : Int) := by rw [wrap_id (by omega) (by omega)]; omega
 rw [e, if_pos (by omega), if_pos (by omega), if_pos (by omega), if_pos (by omega), Int.toNat_natCast, Int.toNat_natCast, tl_extract, tl_extract, List.drop_zero, List.take_of_length_le (by rw [tl_len]; exact Nat.le_refl _)]
 unfold perB
 congr 1
 by_cases h : a.toList.drop p = a.toList.take (a.size - p)
 ·
  rw [decide_eq_true h]; exact beq_iff_eq.2 h
 ·
  rw [decide_eq_false h]; exact beq_eq_false_iff_ne.2 h
/-- The periods from one on. -/
def prs (a : ByteArray) : Nat → Nat → List Int
 | 0, _ => []
 | d + 1, i => if perB a i = true then (i : Int) :: prs a d (i + 1) else prs a d (i + 1)
theorem prs_length (a : ByteArray) : ∀ d i, (prs a d i).length ≤ d
 | 0, _ => Nat.le_refl _
 | d + 1, i => by
  have := prs_length a d (i + 1)
  unfold prs; split
  ·
   rw [List.length_cons]; omega
  ·
   omega
theorem mem_prs (a : ByteArray) (p : Nat) (h : perB a p = true) : ∀ d i, i ≤ p → p < i + d → (p : Int) ∈ prs a d i
 | 0, i, h1, h2 => by omega
 | d + 1, i, h1, h2 => by
  unfold prs
  by_cases e : i = p
  ·
   subst e; rw [if_pos h]; simp
  ·
   have := mem_prs a p h d (i + 1) (by omega) (by omega)
   split
   ·
    exact List.mem_cons_of_mem _ this
   ·
    exact this
theorem per_all (a : ByteArray) : perB a a.size = true := by
 unfold perB; rw [List.drop_eq_nil_of_le (by rw [tl_len]; exact Nat.le_refl _), Nat.sub_self, List.take_zero]; rfl
theorem iper_loop (a : ByteArray) (ha : a.size ≤ 1000000) : ∀ (d k i : Nat) (acc : List Int), i + d = a.size + 1 → acc.length ≤ i → d < k → impl_periods.l0 k a acc (i : Int) = some (acc ++ prs a d i) := by
 intro d
 induction d with
 | zero =>
  intro k i acc hi hl hk
  obtain ⟨k, rfl⟩ : ∃ m, k = m + 1 := ⟨k - 1, by omega⟩
  simp only [impl_periods.l0]
  rw [if_neg (by omega)]; simp [prs]
 | succ d ih =>
  intro k i acc hi hl hk
  obtain ⟨k, rfl⟩ : ∃ m, k = m + 1 := ⟨k - 1, by omega⟩
  simp only [impl_periods.l0]
  rw [if_pos (by omega), hasPeriod_f a ha i (by omega), Option.bind_some, wrap_succ (by omega)]
  unfold prs
  by_cases h : perB a i = true
  ·
   rw [if_pos h, if_pos (by omega), if_pos h, ih k (i + 1) _ (by omega) (by simp; omega) (by omega), List.append_assoc]; rfl
  ·
   rw [if_neg h, if_neg h, ih k (i + 1) _ (by omega) (by omega) (by omega)]
def prsOf (a : ByteArray) : List Int := prs a a.size 1
theorem iper_ev (a : ByteArray) (ha : a.size ≤ 1000000) : Ev (fun k => impl_periods.f k a) (prsOf a) :=
 ⟨a.size + 1, fun k hk => iper_loop a ha a.size k 1 [] (by omega) (by simp) (by omega)⟩
theorem iPeriodsOf_ev {a : ByteArray} (h : isW a = true) : Ev (fun k => impl_PeriodsOf.f k a) (prsOf a, 0) := by
 unfold impl_PeriodsOf.f
 simp only [always_f, Option.bind_some, codeW_one h, if_true]
 have := isW_size h
 refine ev_bnd (iper_ev a (by omega)) (ev_of rfl)

theorem has_loop (l : List Int) (x : Int) (hl : l.length ≤ 4000000000000) : ∀ (d k i : Nat), i + d = l.length → d < k → x ∈ l.drop i → laws_hasInt.l0 k l x (i : Int) = some true := by
 intro d
 induction d with
 | zero =>
  intro k i hd hk hx
  rw [List.drop_eq_nil_of_le (by omega)] at hx; cases hx
 | succ d ih =>
  intro k i hd hk hx
  obtain ⟨k, rfl⟩ : ∃ m, k = m + 1 := ⟨k - 1, by omega⟩
  have hi : i < l.length := by omega
  simp only [laws_hasInt.l0]
  rw [if_pos (by omega), if_pos (by omega), rd_nat l i hi, wrap_succ (by omega)]
  by_cases e : l[i] = x
  ·
   rw [if_pos e]
  ·
   rw [if_neg e]
   refine ih k (i + 1) (by omega) (by omega) ?_
   rw [List.drop_eq_getElem_cons hi] at hx
   rcases List.mem_cons.1 hx with h | h
   ·
    exact absurd h.symm e
   ·
    exact h
theorem has_ev (l : List Int) (x : Int) (hl : l.length ≤ 4000000000000) (hx : x ∈ l) : Ev (fun k => laws_hasInt.f k l x) true :=
 ⟨l.length + 1, fun k hk => has_loop l x hl l.length k 0 (by omega) (by omega) (by simpa using hx)⟩


end Go.Proofs.YtcfphjjdbccnoaaGreat.PF
