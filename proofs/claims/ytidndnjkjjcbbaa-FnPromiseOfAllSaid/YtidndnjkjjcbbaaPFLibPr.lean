/- Periods, powers, roots and closures of words: what the program and the reference compute, and what holds for them. -/
import Derived.Test.YtidndnjkjjcbbaaPFLibE
import Derived.Test.YtidndnjkjjcbbaaPFLibO
import Derived.Test.YtidndnjkjjcbbaaPFGivT
import Derived.Test.YtidndnjkjjcbbaaPFx2
import Derived.Test.YtidndnjkjjcbbaaPFx0
import Derived.Test.YtidndnjkjjcbbaaPFx3
import Derived.Test.YtidndnjkjjcbbaaPFx0
import Derived.Test.YtidndnjkjjcbbaaPFx2
import Derived.Test.YtidndnjkjjcbbaaPFx1
import Derived.Test.YtidndnjkjjcbbaaPFx0
import Derived.Test.YtidndnjkjjcbbaaPFx0
import Derived.Test.YtidndnjkjjcbbaaPFx0
import Derived.Test.YtidndnjkjjcbbaaPFx0
namespace Go.Proofs.Ytidndnjkjjcbbaa.PF
open Go.RowKit Go.Proofs.YtidndnjkjjcbbaaW.PrintWords Go.Proofs.YtidndnjkjjcbbaaW.PrintLast Go.Proofs.YtidndnjkjjcbbaaW.PrintMore
set_option linter.unusedVariables false
set_option linter.unusedSimpArgs false
set_option maxRecDepth 20000

theorem tl_len (a : ByteArray) : a.toList.length = a.size := by rw [toList_eq, Array.length_toList]; rfl
theorem tl_extract (a : ByteArray) (i j : Nat) : (a.extract i j).toList = (a.toList.take j).drop i := by
  rw [toList_eq, toList_eq]
  simp only [ByteArray.data_extract, Array.toList_extract, List.extract_eq_take_drop, List.drop_take]
theorem tl_append (a b : ByteArray) : (a ++ b).toList = a.toList ++ b.toList := by
  rw [toList_eq, toList_eq, toList_eq, ByteArray.data_append, Array.toList_append]
theorem sz_rev (a : ByteArray) : (rev a).size = a.size := by rw [← tl_len, rev_toList, List.length_reverse, tl_len]

/-! ### words -/
theorem isW_iff (a : ByteArray) : isW a = true ↔ a.size ≤ 60 ∧ ∀ b ∈ a.toList, isLet (b.toNat : Int) = true := by
  simp only [isW, Bool.and_eq_true, decide_eq_true_eq, bytesOf, List.all_eq_true, List.mem_map, toList_eq]
  constructor
  · rintro ⟨h1, h2⟩; exact ⟨h1, fun b hb => h2 _ ⟨b, hb, rfl⟩⟩
  · rintro ⟨h1, h2⟩; exact ⟨h1, by rintro x ⟨b, hb, rfl⟩; exact h2 b hb⟩
theorem isW_rev {a : ByteArray} (h : isW a = true) : isW (rev a) = true := by
  rw [isW_iff] at h ⊢
  exact ⟨by rw [sz_rev]; exact h.1, fun b hb => h.2 b (by rw [rev_toList] at hb; exact List.mem_reverse.1 hb)⟩
theorem codeW_one {a : ByteArray} (h : isW a = true) : codeW true [a] = 0 := by simp [codeW, h]

theorem always_f (k : Nat) (a : ByteArray) : impl_wordCode.f k impl_always.f [a] = some (codeW true [a]) := by
  have : impl_always.f = some true := rfl
  rw [this]; exact wordCode_f k true [a]

/-! ### reversed words -/
theorem reversed_f (a : ByteArray) (h : a.size ≤ 1000000) : impl_reversed.f a = some (rev a) := by unfold impl_reversed.f; rw [if_pos (by omega)]
theorem srev_loop (a : ByteArray) (ha : a.size ≤ 1000000) : ∀ (d k : Nat), d ≤ a.size → d < k → spec_l01Reversed.l0 k a ((bytesOf a).drop d).reverse ((d : Int) - 1) = some (rev a) := by
  intro d
  induction d with
  | zero =>
    intro k hd hk
    obtain ⟨k, rfl⟩ : ∃ m, k = m + 1 := ⟨k - 1, by omega⟩
    simp only [spec_l01Reversed.l0]
    rw [if_neg (by omega)]; rfl
  | succ d ih =>
    intro k hd hk
    obtain ⟨k, rfl⟩ : ∃ m, k = m + 1 := ⟨k - 1, by omega⟩
    have e : ((d + 1 : Nat) : Int) - 1 = (d : Int) := by omega
    have hl : ((bytesOf a).drop (d + 1)).reverse.length = a.size - (d + 1) := by rw [List.length_reverse, List.length_drop, bytesOf_length]
    have hb : d < (bytesOf a).length := by rw [bytesOf_length]; omega
    simp only [spec_l01Reversed.l0, e]
    rw [if_pos (by omega), if_pos (by omega), if_pos (by omega), if_pos (by omega), wrap_id (by omega) (by omega)]
    have := ih k (by omega) (by omega)
    rw [List.drop_eq_getElem_cons hb, List.reverse_cons] at this
    rw [← this]
    congr 2
    rw [← rd_bytesOf, rd_nat _ _ hb]
theorem srev_ev (a : ByteArray) (ha : a.size ≤ 1000000) : Ev (fun k => spec_l01Reversed.f k a) (rev a) :=
  ⟨a.size + 1, fun k hk => by
    have h := srev_loop a ha a.size k (by omega) (by omega)
    rw [List.drop_eq_nil_of_le (by rw [bytesOf_length]; exact Nat.le_refl _)] at h
    unfold spec_l01Reversed.f
    rw [wrap_id (by omega) (by omega)]; exact h⟩

/-! ### periods -/
def perB (a : ByteArray) (p : Nat) : Bool := decide (a.toList.drop p = a.toList.take (a.size - p))
theorem hasPeriod_f (a : ByteArray) (ha : a.size ≤ 1000000) (p : Nat) (hp : p ≤ a.size) : impl_hasPeriod.f a (p : Int) = some (perB a p) := by
  unfold impl_hasPeriod.f
  have e : wrap64 ((a.size : Int) - (p : Int)) = ((a.size - p : Nat) : Int) := by rw [wrap_id (by omega) (by omega)]; omega
  rw [e, if_pos (by omega), if_pos (by omega), if_pos (by omega), if_pos (by omega), Int.toNat_natCast, Int.toNat_natCast, tl_extract, tl_extract, List.drop_zero, List.take_of_length_le (by rw [tl_len]; exact Nat.le_refl _)]
  unfold perB
  congr 1
  by_cases h : a.toList.drop p = a.toList.take (a.size - p)
  · rw [decide_eq_true h]; exact beq_iff_eq.2 h
  · rw [decide_eq_false h]; exact beq_eq_false_iff_ne.2 h
/-- The periods from one on. -/
def prs (a : ByteArray) : Nat → Nat → List Int
  | 0, _ => []
  | d + 1, i => if perB a i = true then (i : Int) :: prs a d (i + 1) else prs a d (i + 1)
theorem prs_length (a : ByteArray) : ∀ d i, (prs a d i).length ≤ d
  | 0, _ => Nat.le_refl _
  | d + 1, i => by
    have := prs_length a d (i + 1)
    unfold prs; split
    · rw [List.length_cons]; omega
    · omega
theorem prs_last (a : ByteArray) : ∀ d i, prs a (d + 1) i = prs a d i ++ (if perB a (i + d) = true then [((i + d : Nat) : Int)] else [])
  | 0, i => by simp [prs]
  | d + 1, i => by
    rw [prs, prs_last a d (i + 1), prs, show i + 1 + d = i + (d + 1) by omega]
    split <;> rfl
theorem mem_prs (a : ByteArray) (p : Nat) (h : perB a p = true) : ∀ d i, i ≤ p → p < i + d → (p : Int) ∈ prs a d i
  | 0, i, h1, h2 => by omega
  | d + 1, i, h1, h2 => by
    unfold prs
    by_cases e : i = p
    · subst e; rw [if_pos h]; simp
    · have := mem_prs a p h d (i + 1) (by omega) (by omega)
      split
      · exact List.mem_cons_of_mem _ this
      · exact this
theorem prs_congr {a b : ByteArray} (h : ∀ p, perB a p = perB b p) : ∀ d i, prs a d i = prs b d i
  | 0, _ => rfl
  | d + 1, i => by unfold prs; rw [h i, prs_congr h d (i + 1)]
theorem per_all (a : ByteArray) : perB a a.size = true := by
  unfold perB; rw [List.drop_eq_nil_of_le (by rw [tl_len]; exact Nat.le_refl _), Nat.sub_self, List.take_zero]; rfl
theorem per_rev (a : ByteArray) (p : Nat) : perB (rev a) p = perB a p := by
  unfold perB
  rw [Bool.eq_iff_iff, decide_eq_true_eq, decide_eq_true_eq, rev_toList, sz_rev, ← tl_len]
  generalize a.toList = L
  rw [List.drop_reverse, List.take_reverse, List.reverse_inj]
  by_cases h : p ≤ L.length
  · rw [show L.length - (L.length - p) = p by omega]; exact eq_comm
  · rw [show L.length - p = 0 by omega, List.take_zero, Nat.sub_zero, List.drop_length, List.drop_eq_nil_of_le (by omega)]

theorem iper_loop (a : ByteArray) (ha : a.size ≤ 1000000) : ∀ (d k i : Nat) (acc : List Int), i + d = a.size + 1 → acc.length ≤ i → d < k → impl_periods.l0 k a acc (i : Int) = some (acc ++ prs a d i) := by
  intro d
  induction d with
  | zero =>
    intro k i acc hi hl hk
    obtain ⟨k, rfl⟩ : ∃ m, k = m + 1 := ⟨k - 1, by omega⟩
    simp only [impl_periods.l0]
    rw [if_neg (by omega)]; simp [prs]
  | succ d ih =>
    intro k i acc hi hl hk
    obtain ⟨k, rfl⟩ : ∃ m, k = m + 1 := ⟨k - 1, by omega⟩
    simp only [impl_periods.l0]
    rw [if_pos (by omega), hasPeriod_f a ha i (by omega), Option.bind_some, wrap_succ (by omega)]
    unfold prs
    by_cases h : perB a i = true
    · rw [if_pos h, if_pos (by omega), if_pos h, ih k (i + 1) _ (by omega) (by simp; omega) (by omega), List.append_assoc]; rfl
    · rw [if_neg h, if_neg h, ih k (i + 1) _ (by omega) (by omega) (by omega)]
theorem sper_loop (a : ByteArray) (ha : a.size ≤ 1000000) : ∀ (d k i : Nat) (acc : List Int), i + d = a.size + 1 → acc.length ≤ i → d < k → spec_l02Periods.l0 k a acc (i : Int) = some (acc ++ prs a d i) := by
  intro d
  induction d with
  | zero =>
    intro k i acc hi hl hk
    obtain ⟨k, rfl⟩ : ∃ m, k = m + 1 := ⟨k - 1, by omega⟩
    simp only [spec_l02Periods.l0]
    rw [if_neg (by omega)]; simp [prs]
  | succ d ih =>
    intro k i acc hi hl hk
    obtain ⟨k, rfl⟩ : ∃ m, k = m + 1 := ⟨k - 1, by omega⟩
    have e : wrap64 ((a.size : Int) - (i : Int)) = ((a.size - i : Nat) : Int) := by rw [wrap_id (by omega) (by omega)]; omega
    simp only [spec_l02Periods.l0, e]
    rw [if_pos (by omega), if_pos (by omega), if_pos (by omega), if_pos (by omega), Int.toNat_natCast, Int.toNat_natCast, tl_extract, tl_extract, List.drop_zero, List.take_of_length_le (show a.toList.length ≤ a.size by rw [tl_len]; exact Nat.le_refl _), wrap_succ (by omega)]
    unfold prs
    by_cases h : perB a i = true
    · rw [if_pos (of_decide_eq_true h), if_pos (by omega), if_pos h, ih k (i + 1) _ (by omega) (by simp; omega) (by omega), List.append_assoc]; rfl
    · rw [if_neg (fun e => h (decide_eq_true e)), if_neg h, ih k (i + 1) _ (by omega) (by omega) (by omega)]
def prsOf (a : ByteArray) : List Int := prs a a.size 1
theorem iper_ev (a : ByteArray) (ha : a.size ≤ 1000000) : Ev (fun k => impl_periods.f k a) (prsOf a) :=
  ⟨a.size + 1, fun k hk => iper_loop a ha a.size k 1 [] (by omega) (by simp) (by omega)⟩
theorem sper_ev (a : ByteArray) (ha : a.size ≤ 1000000) : Ev (fun k => spec_l02Periods.f k a) (prsOf a) :=
  ⟨a.size + 1, fun k hk => sper_loop a ha a.size k 1 [] (by omega) (by simp) (by omega)⟩
theorem iPeriodsOf_ev {a : ByteArray} (h : isW a = true) : Ev (fun k => impl_PeriodsOf.f k a) (prsOf a, 0) := by
  unfold impl_PeriodsOf.f
  simp only [always_f, Option.bind_some, codeW_one h, if_true]
  have := isW_size h
  refine ev_bnd (iper_ev a (by omega)) (ev_of rfl)

theorem like_loop (l : List Int) (hl : l.length ≤ 4000000000000) : ∀ (d k i : Nat), i + d = l.length → d < k → laws_likeInts.l0 k l l (i : Int) = some true := by
  intro d
  induction d with
  | zero =>
    intro k i hd hk
    obtain ⟨k, rfl⟩ : ∃ m, k = m + 1 := ⟨k - 1, by omega⟩
    simp only [laws_likeInts.l0]; rw [if_neg (by omega)]
  | succ d ih =>
    intro k i hd hk
    obtain ⟨k, rfl⟩ : ∃ m, k = m + 1 := ⟨k - 1, by omega⟩
    simp only [laws_likeInts.l0]
    rw [if_pos (by omega), if_pos (by omega), if_pos (by omega), if_pos trivial, wrap_succ (by omega), ih k (i + 1) (by omega) (by omega)]
theorem like_ev (l : List Int) (hl : l.length ≤ 4000000000000) : Ev (fun k => laws_likeInts.f k l l) true :=
  ⟨l.length + 1, fun k hk => by
    have h := like_loop l hl l.length k 0 (by omega) (by omega)
    simp only [laws_likeInts.f, if_true]; exact h⟩
theorem has_loop (l : List Int) (x : Int) (hl : l.length ≤ 4000000000000) : ∀ (d k i : Nat), i + d = l.length → d < k → x ∈ l.drop i → laws_hasInt.l0 k l x (i : Int) = some true := by
  intro d
  induction d with
  | zero =>
    intro k i hd hk hx
    rw [List.drop_eq_nil_of_le (by omega)] at hx; cases hx
  | succ d ih =>
    intro k i hd hk hx
    obtain ⟨k, rfl⟩ : ∃ m, k = m + 1 := ⟨k - 1, by omega⟩
    have hi : i < l.length := by omega
    simp only [laws_hasInt.l0]
    rw [if_pos (by omega), if_pos (by omega), rd_nat l i hi, wrap_succ (by omega)]
    by_cases e : l[i] = x
    · rw [if_pos e]
    · rw [if_neg e]
      refine ih k (i + 1) (by omega) (by omega) ?_
      rw [List.drop_eq_getElem_cons hi] at hx
      rcases List.mem_cons.1 hx with h | h
      · exact absurd h.symm e
      · exact h
theorem has_ev (l : List Int) (x : Int) (hl : l.length ≤ 4000000000000) (hx : x ∈ l) : Ev (fun k => laws_hasInt.f k l x) true :=
  ⟨l.length + 1, fun k hk => has_loop l x hl l.length k 0 (by omega) (by omega) (by simpa using hx)⟩

/-! ### periods of what is periodic -/
def PerF {α : Type} (f : Nat → α) (n p : Nat) : Prop := ∀ i, i + p < n → f i = f (i + p)
theorem PerF.sub {α : Type} {f : Nat → α} {n p q : Nat} (hp : PerF f n p) (hq : PerF f n q) (hpq : p < q) (hn : p + q ≤ n) : PerF f n (q - p) := by
  intro i hi
  by_cases h : i + q < n
  · rw [hq i h, hp (i + (q - p)) (by omega)]
    congr 1; omega
  · have h1 := hp (i - p) (by omega)
    have h2 := hq (i - p) (by omega)
    rw [show i - p + p = i by omega] at h1
    rw [← h1, h2]; congr 1; omega
theorem PerF.gcd {α : Type} {f : Nat → α} {n : Nat} : ∀ s p q : Nat, p + q ≤ s → 0 < p → 0 < q → p + q ≤ n → PerF f n p → PerF f n q → PerF f n (Nat.gcd p q) := by
  intro s
  induction s with
  | zero => intro p q h1 h2 h3; omega
  | succ s ih =>
    intro p q h1 h2 h3 h4 hp hq
    rcases Nat.lt_trichotomy p q with h | h | h
    · have := ih p (q - p) (by omega) h2 (by omega) (by omega) hp (hp.sub hq h h4)
      rwa [Nat.gcd_sub_self_right (by omega)] at this
    · subst h; rwa [Nat.gcd_self]
    · have := ih (p - q) q (by omega) (by omega) h3 (by omega) (hq.sub hp h (by omega)) hq
      rwa [Nat.gcd_sub_self_left (by omega)] at this
theorem per_iff (a : ByteArray) (p : Nat) (hp : p ≤ a.size) : perB a p = true ↔ PerF (fun i => a.toList[i]?) a.size p := by
  unfold perB PerF
  rw [decide_eq_true_eq]
  constructor
  · intro h i hi
    have := congrArg (fun l => l[i]?) h
    simp only [List.getElem?_drop, List.getElem?_take] at this
    rw [if_pos (by omega)] at this
    show a.toList[i]? = a.toList[i + p]?
    rw [← this, Nat.add_comm]
  · intro h
    refine List.ext_getElem? fun i => ?_
    simp only [List.getElem?_drop, List.getElem?_take]
    by_cases hi : i + p < a.size
    · have h' : a.toList[i]? = a.toList[i + p]? := h i hi
      rw [if_pos (by omega), h', Nat.add_comm]
    · rw [if_neg (by omega)]
      exact List.getElem?_eq_none (by rw [tl_len]; omega)

/-! ### powers -/
theorem rep_size' (s : ByteArray) (n : Nat) : (rep s n).size = s.size * n := by
  have h := Lib.repeatL_length s.data.toList n
  have e : (rep s n).size = (Lib.repeatL s.data.toList n).length := by unfold rep; simp [ByteArray.size]
  rw [e, h, Array.length_toList, Nat.mul_comm]; rfl
theorem rep_succ' (s : ByteArray) (n : Nat) : rep s (n + 1) = rep s n ++ s := by
  refine ba_ext ?_
  rw [ByteArray.data_append, Array.toList_append]
  unfold rep
  rw [Lib.repeatL_add, Lib.repeatL_one]
theorem rep_comm (s : ByteArray) : ∀ n, (rep s n).toList ++ s.toList = s.toList ++ (rep s n).toList
  | 0 => by
    have : (rep s 0).toList = [] := by rw [toList_eq]; rfl
    rw [this]; simp
  | n + 1 => by rw [rep_succ', tl_append, rep_comm s n, List.append_assoc, rep_comm s n]
theorem isW_rep {s : ByteArray} (h : isW s = true) : ∀ n, s.size * n ≤ 60 → isW (rep s n) = true := by
  intro n hn
  rw [isW_iff] at h ⊢
  refine ⟨by rw [rep_size']; exact hn, ?_⟩
  clear hn
  induction n with
  | zero => intro b hb; have e : (rep s 0).toList = [] := by rw [toList_eq]; rfl
            rw [e] at hb; cases hb
  | succ n ih =>
    intro b hb
    rw [rep_succ', tl_append, List.mem_append] at hb
    exact hb.elim (ih b) (h.2 b)
theorem per_rep (s : ByteArray) (n : Nat) (hn : 0 < n) : perB (rep s n) s.size = true := by
  obtain ⟨m, rfl⟩ : ∃ m, n = m + 1 := ⟨n - 1, by omega⟩
  unfold perB
  rw [decide_eq_true_eq, rep_size', show s.size * (m + 1) - s.size = (rep s m).toList.length by rw [tl_len, rep_size', Nat.mul_succ]; omega, rep_succ', tl_append, List.take_left]
  rw [rep_comm, ← tl_len s, List.drop_left]

theorem spow_loop (w : ByteArray) (hw : 0 < w.size) (hw1 : w.size ≤ 1000) : ∀ (d k j : Nat), j + d ≤ 1000000 → d < k → spec_PowerOf.l0 k w (d : Int) (rep w j) = some (rep w (j + d), 0) := by
  intro d
  induction d with
  | zero =>
    intro k j h hk
    obtain ⟨k, rfl⟩ : ∃ m, k = m + 1 := ⟨k - 1, by omega⟩
    simp only [spec_PowerOf.l0]
    rw [if_neg (by omega)]; rfl
  | succ d ih =>
    intro k j h hk
    obtain ⟨k, rfl⟩ : ∃ m, k = m + 1 := ⟨k - 1, by omega⟩
    have hne : ¬ w.toList = [] := fun e => by have := tl_len w; rw [e] at this; simp at this; omega
    have hs : (rep w j).size + w.size ≤ 9223372036854775807 := by
      rw [rep_size']
      have := Nat.mul_le_mul hw1 (show j ≤ 1000000 by omega)
      omega
    simp only [spec_PowerOf.l0]
    rw [if_pos (by omega), if_neg hne, if_pos hs, ← rep_succ', wrap_id (by omega) (by omega), show (((d + 1 : Nat) : Int) - 1) = (d : Int) by omega, ih k (j + 1) (by omega) (by omega)]
    congr 3; omega

def inP (m : Int) : Bool := decide (0 ≤ m) && decide (m ≤ 1000)
theorem pow1_f (m : Int) : impl_PowerOf_1.f m = some (inP m) := by
  unfold impl_PowerOf_1.f impl_within.f inP
  by_cases h : (0 : Int) ≤ m
  · rw [if_pos h, decide_eq_true h, Bool.true_and]; rfl
  · rw [if_neg h, decide_eq_false h, Bool.false_and]; rfl
theorem l01In_f' (m : Int) : spec_l01In.f m 0 1000 = some (inP m) := by
  unfold spec_l01In.f inP
  by_cases h : (0 : Int) ≤ m
  · rw [if_pos h, decide_eq_true h, Bool.true_and]
  · rw [if_neg h, decide_eq_false h, Bool.false_and]

/-- What a power is: its word and its code. -/
def powV (w : ByteArray) (t : Int) : ByteArray × Int := if inP t = true then (if w.size * t.toNat > 60 then (⟨#[]⟩, 3) else (rep w t.toNat, 0)) else (⟨#[]⟩, 2)
theorem pow_ev {w : ByteArray} (h : isW w = true) (hw : 0 < w.size) (t : Int) : Ev (fun k => impl_PowerOf.f k w t) (powV w t) ∧ Ev (fun k => spec_PowerOf.f k w t) (powV w t) := by
  have hs := isW_size h
  have hl := l01Is_ev w (by omega)
  rw [h] at hl
  unfold impl_PowerOf.f spec_PowerOf.f powV
  simp only [pow1_f, wordCode_f, Option.bind_some, l01In_f', impl_size.f]
  by_cases h1 : inP t = true
  · have hc : codeW true [w] = 0 := codeW_one h
    have hr := h1
    simp only [inP, Bool.and_eq_true, decide_eq_true_eq] at hr
    obtain ⟨n, rfl⟩ : ∃ n : Nat, t = n := ⟨t.toNat, by omega⟩
    have hm : w.size * n ≤ 60 * 1000 := Nat.mul_le_mul hs (by omega)
    have hwr : wrap64 ((w.size : Int) * (n : Int)) = ((w.size * n : Nat) : Int) := wrap_nat (by rw [Int.natCast_mul]) (by omega)
    simp only [h1, hc, if_true, hwr, Int.toNat_natCast]
    by_cases h2 : w.size * n > 60
    · simp only [show (((w.size * n : Nat) : Int) > 60) by omega, h2, if_true]
      exact ⟨ev_of rfl, ev_bnd hl (by simp only [if_true]; exact ev_of rfl)⟩
    · simp only [show ¬ (((w.size * n : Nat) : Int) > 60) by omega, h2, if_false]
      refine ⟨?_, ev_bnd hl ?_⟩
      · have : strings_Repeat.f w (n : Int) = some (rep w n) := by
          unfold strings_Repeat.f
          rw [if_pos ⟨by omega, by omega, by rw [Int.toNat_natCast]; omega⟩, Int.toNat_natCast]
        simp only [this, Option.bind_some]; exact ev_of rfl
      · simp only [if_true]
        exact ⟨n + 1, fun k hk => by
          have := spow_loop w hw (by omega) n k 0 (by omega) (by omega)
          rwa [Nat.zero_add] at this⟩
  · have hc : codeW false [w] = 2 := by simp [codeW, h]
    have h1 : inP t = false := by simpa using h1
    simp only [hc, h1, if_false, Bool.false_eq_true, show ¬ ((2 : Int) = 0) by omega]
    exact ⟨ev_of rfl, ev_bnd hl (by simp only [if_true]; exact ev_of rfl)⟩

/-! ### roots -/
/-- The least period. -/
theorem least_per (a : ByteArray) (h : 0 < a.size) : ∃ p, 1 ≤ p ∧ p ≤ a.size ∧ perB a p = true ∧ ∀ q, 1 ≤ q → q < p → ¬ perB a q = true := by
  have key : ∀ d i, i + d = a.size → 1 ≤ i → (∀ q, 1 ≤ q → q < i → ¬ perB a q = true) → ∃ p, 1 ≤ p ∧ p ≤ a.size ∧ perB a p = true ∧ ∀ q, 1 ≤ q → q < p → ¬ perB a q = true := by
    intro d
    induction d with
    | zero => intro i hi h1 hq; exact ⟨i, h1, by omega, by rw [show i = a.size by omega]; exact per_all a, hq⟩
    | succ d ih =>
      intro i hi h1 hq
      by_cases hp : perB a i = true
      · exact ⟨i, h1, by omega, hp, hq⟩
      · refine ih (i + 1) (by omega) (by omega) fun q q1 q2 => ?_
        by_cases e : q = i
        · subst e; exact hp
        · exact hq q q1 (by omega)
  exact key (a.size - 1) 1 (by omega) (Nat.le_refl _) fun q q1 q2 => by omega
theorem period_loop (a : ByteArray) (ha : a.size ≤ 1000000) (p : Nat) (hp : p ≤ a.size) (hpp : perB a p = true) (hq : ∀ q, 1 ≤ q → q < p → ¬ perB a q = true) : ∀ (d k i : Nat), 1 ≤ i → i + d = p → d < k → impl_period.l0 k a (i : Int) = some (p : Int) := by
  intro d
  induction d with
  | zero =>
    intro k i h1 hi hk
    obtain ⟨k, rfl⟩ : ∃ m, k = m + 1 := ⟨k - 1, by omega⟩
    have e : i = p := by omega
    subst e
    simp only [impl_period.l0]
    rw [hasPeriod_f a ha i hp, Option.bind_some, if_pos hpp]
  | succ d ih =>
    intro k i h1 hi hk
    obtain ⟨k, rfl⟩ : ∃ m, k = m + 1 := ⟨k - 1, by omega⟩
    simp only [impl_period.l0]
    rw [hasPeriod_f a ha i (by omega), Option.bind_some, if_neg (hq i h1 (by omega)), wrap_succ (by omega), ih k (i + 1) (by omega) (by omega) (by omega)]

theorem root_ev {a : ByteArray} (h : isW a = true) (h0 : 0 < a.size) : ∃ (r : ByteArray) (p j : Nat), Ev (fun k => impl_RootOf.f k a) (r, (j : Int), 0) ∧ r.size * j = a.size ∧
    (r.size = a.size ∨ r.size = p) ∧ 1 ≤ p ∧ p ≤ a.size ∧ perB a p = true ∧ (∀ q, 1 ≤ q → q < p → ¬ perB a q = true) ∧ (p ∣ a.size → r.size = p) ∧ 0 < r.size := by
  have hs := isW_size h
  obtain ⟨p, h1, h2, h3, h4⟩ := least_per a h0
  have hpe : Ev (fun k => impl_period.f k a) (p : Int) := ⟨p + 1, fun k hk => period_loop a (by omega) p h2 h3 h4 (p - 1) k 1 (by omega) (by omega) (by omega)⟩
  have hne : ¬ a.toList = ([] : List UInt8) := fun e => by have := tl_len a; rw [e] at this; simp at this; omega
  have main : ∀ r : ByteArray, 0 < r.size → r.size ∣ a.size → Ev (fun k => impl_root.f k a) r → Ev (fun k => impl_RootOf.f k a) (r, ((a.size / r.size : Nat) : Int), 0) := by
    intro r hr hd hroot
    unfold impl_RootOf.f impl_filledCode.f
    simp only [always_f, Option.bind_some, codeW_one h, if_true, hne, if_false]
    refine ev_bnd hroot ?_
    have : a.size / r.size ≤ a.size := Nat.div_le_self _ _
    simp only [impl_size.f, Option.bind_some, show ¬ ((r.size : Int) = 0) by omega, if_false]
    refine ev_of ?_
    have e : Int.tdiv (a.size : Int) (r.size : Int) = ((a.size / r.size : Nat) : Int) := rfl
    rw [e]
    generalize a.size / r.size = q at this
    rw [wrap_id (by omega) (by omega)]
  by_cases hd : p ∣ a.size
  · have hsz : (a.extract 0 p).size = p := by rw [ByteArray.size_extract]; omega
    refine ⟨a.extract 0 p, p, a.size / p, ?_, ?_, .inr hsz, h1, h2, h3, h4, fun _ => hsz, by omega⟩
    · have := main (a.extract 0 p) (by omega) (by rw [hsz]; exact hd) (by
        unfold impl_root.f
        refine ev_bnd hpe ?_
        have e : ((a.size : Int) % (p : Int)) = 0 := by
          have := Nat.eq_zero_of_dvd_of_lt (Nat.dvd_refl 0)
          exact Int.emod_eq_zero_of_dvd (Int.natCast_dvd_natCast.2 hd)
        simp only [show ¬ ((p : Int) = 0) by omega, if_false, e, if_true, show (0 : Int) ≤ (p : Int) by omega, show (p : Int) ≤ (a.size : Int) by omega, Int.toNat_natCast]
        exact ev_of rfl)
      rwa [hsz] at this
    · rw [hsz]; exact Nat.mul_div_cancel' hd
  · refine ⟨a, p, 1, ?_, by omega, .inl rfl, h1, h2, h3, h4, fun g => absurd g hd, h0⟩
    have := main a h0 (Nat.dvd_refl _) (by
      unfold impl_root.f
      refine ev_bnd hpe ?_
      have e : ¬ ((a.size : Int) % (p : Int)) = 0 := fun e => hd (Int.natCast_dvd_natCast.1 (Int.dvd_of_emod_eq_zero e))
      simp only [show ¬ ((p : Int) = 0) by omega, if_false, e]
      exact ev_of rfl)
    rwa [Nat.div_self h0] at this

/-- The number of a power's root is one of the power's. -/
theorem power_root {w : ByteArray} (h : isW w = true) (h0 : 0 < w.size) (t : Nat) (ht : 0 < t) (hm : w.size * t ≤ 60) : ∃ (r : ByteArray) (j : Nat), Ev (fun k => impl_RootOf.f k (rep w t)) (r, (j : Int), 0) ∧ r.size * j = w.size * t ∧ j % t = 0 ∧ r.size * j ≤ 60 := by
  have hsz := rep_size' w t
  have hpos : 0 < w.size * t := Nat.mul_pos h0 ht
  obtain ⟨r, p, j, h1, h2, h3, h4, h5, h6, h7, h8, h9⟩ := root_ev (isW_rep h t hm) (by rw [hsz]; exact hpos)
  rw [hsz] at h2 h3 h5 h8
  refine ⟨r, j, h1, h2, ?_, by omega⟩
  rcases Nat.lt_or_ge t 2 with ht2 | ht2
  · have : t = 1 := by omega
    subst this; exact Nat.mod_one j
  · have hpw := per_rep w t ht
    have hle : w.size * 2 ≤ w.size * t := Nat.mul_le_mul_left _ ht2
    have hple : p ≤ w.size := by
      rcases Nat.lt_or_ge w.size p with g | g
      · exact absurd hpw (h7 w.size h0 g)
      · exact g
    have g1 := (per_iff (rep w t) p (by rw [hsz]; omega)).1 h6
    have g2 := (per_iff (rep w t) w.size (by rw [hsz]; omega)).1 hpw
    have g3 := PerF.gcd (p + w.size) p w.size (Nat.le_refl _) (by omega) h0 (by rw [hsz]; omega) g1 g2
    have hg0 : 0 < Nat.gcd p w.size := Nat.gcd_pos_of_pos_left _ (by omega)
    have hgp : Nat.gcd p w.size ≤ p := Nat.gcd_le_left _ (by omega)
    have g4 := (per_iff (rep w t) _ (by rw [hsz]; omega)).2 g3
    have hge : Nat.gcd p w.size = p := by
      rcases Nat.lt_or_ge (Nat.gcd p w.size) p with g | g
      · exact absurd g4 (h7 _ hg0 g)
      · omega
    have hdv : p ∣ w.size := by rw [← hge]; exact Nat.gcd_dvd_right _ _
    have hr := h8 (Nat.dvd_trans hdv (Nat.dvd_mul_right _ _))
    obtain ⟨c, hc⟩ := hdv
    rw [hr, hc, Nat.mul_assoc] at h2
    have hj : j = c * t := Nat.eq_of_mul_eq_mul_left (show 0 < p by omega) h2
    rw [hj]; exact Nat.mul_mod_left _ _

/-! ### closures -/
theorem pal_end (a : ByteArray) : ∃ i, i ≤ a.size ∧ (0 < a.size → i < a.size) ∧ isPal (a.extract i a.size) = true ∧ ∀ q, q < i → ¬ isPal (a.extract q a.size) = true := by
  have key : ∀ d i, i + d = a.size - 1 → (∀ q, q < i → ¬ isPal (a.extract q a.size) = true) → ∃ i, i ≤ a.size ∧ (0 < a.size → i < a.size) ∧ isPal (a.extract i a.size) = true ∧ ∀ q, q < i → ¬ isPal (a.extract q a.size) = true := by
    intro d
    induction d with
    | zero =>
      intro i hi hq
      refine ⟨i, by omega, fun h => by omega, ?_, hq⟩
      unfold isPal
      rw [decide_eq_true_eq, tl_extract]
      have hl : ((a.toList.take a.size).drop i).length ≤ 1 := by rw [List.length_drop, List.length_take, tl_len]; omega
      generalize (a.toList.take a.size).drop i = l at hl
      match l, hl with
      | [], _ => rfl
      | [x], _ => rfl
    | succ d ih =>
      intro i hi hq
      by_cases hp : isPal (a.extract i a.size) = true
      · exact ⟨i, by omega, fun h => by omega, hp, hq⟩
      · refine ih (i + 1) (by omega) fun q q1 => ?_
        by_cases e : q = i
        · subst e; exact hp
        · exact hq q (by omega)
  exact key (a.size - 1) 0 (by omega) fun q q1 => by omega
theorem ending_loop (a : ByteArray) (ha : a.size ≤ 1000) (p : Nat) (hp : p ≤ a.size) (hpp : isPal (a.extract p a.size) = true) (hq : ∀ q, q < p → ¬ isPal (a.extract q a.size) = true) : ∀ (d k i : Nat), i + d = p → d < k → impl_ending.l0 k a (i : Int) = some ((a.size - p : Nat) : Int) := by
  intro d
  induction d with
  | zero =>
    intro k i hi hk
    obtain ⟨k, rfl⟩ : ∃ m, k = m + 1 := ⟨k - 1, by omega⟩
    have e : i = p := by omega
    subst e
    simp only [impl_ending.l0]
    rw [if_pos (by omega), if_pos (by omega), Int.toNat_natCast, isPal_f _ (by rw [ByteArray.size_extract]; omega), Option.bind_some, if_pos hpp, wrap_id (by omega) (by omega)]
    congr 1; omega
  | succ d ih =>
    intro k i hi hk
    obtain ⟨k, rfl⟩ : ∃ m, k = m + 1 := ⟨k - 1, by omega⟩
    simp only [impl_ending.l0]
    rw [if_pos (by omega), if_pos (by omega), Int.toNat_natCast, isPal_f _ (by rw [ByteArray.size_extract]; omega), Option.bind_some, if_neg (hq i (by omega)), wrap_succ (by omega), ih k (i + 1) (by omega) (by omega)]
theorem l04End_loop (a : ByteArray) (ha : a.size ≤ 1000) (p : Nat) (hp : p < a.size) (hpp : isPal (a.extract p a.size) = true) (hq : ∀ q, q < p → ¬ isPal (a.extract q a.size) = true) : ∀ (d k i : Nat), i + d = p → d + 2000 < k → spec_l04End.l0 k a (i : Int) = some ((a.size - p : Nat) : Int) := by
  intro d
  induction d with
  | zero =>
    intro k i hi hk
    obtain ⟨k, rfl⟩ : ∃ m, k = m + 1 := ⟨k - 1, by omega⟩
    have e : i = p := by omega
    subst e
    have hsz : (a.extract i a.size).size ≤ 1000 := by rw [ByteArray.size_extract]; omega
    simp only [spec_l04End.l0]
    rw [if_pos (by omega), if_pos (by omega), if_pos (by omega), Int.toNat_natCast, l04Is_f _ (by omega) k (by omega), Option.bind_some, if_pos hpp, wrap_id (by omega) (by omega)]
    congr 1; omega
  | succ d ih =>
    intro k i hi hk
    obtain ⟨k, rfl⟩ : ∃ m, k = m + 1 := ⟨k - 1, by omega⟩
    have hsz : (a.extract i a.size).size ≤ 1000 := by rw [ByteArray.size_extract]; omega
    simp only [spec_l04End.l0]
    rw [if_pos (by omega), if_pos (by omega), if_pos (by omega), Int.toNat_natCast, l04Is_f _ (by omega) k (by omega), Option.bind_some, if_neg (hq i (by omega)), wrap_succ (by omega), ih k (i + 1) (by omega) (by omega)]

/-- Both closures, and that they are palindromes that begin with the word. -/
theorem clo_ev {w : ByteArray} (h : isW w = true) (h0 : 0 < w.size) : ∃ v : ByteArray, isPal v = true ∧ w.size ≤ v.size ∧ v.extract 0 w.size = w ∧ (v.size ≤ 60 → isW v = true) ∧
    Ev (fun k => impl_ClosureOf.f k w) (if v.size > 60 then (⟨#[]⟩, 3) else (v, 0)) ∧ Ev (fun k => spec_ClosureOf.f k w) (if v.size > 60 then (⟨#[]⟩, 3) else (v, 0)) := by
  have hs := isW_size h
  obtain ⟨i, h1, h2, h3, h4⟩ := pal_end w
  have h2 := h2 h0
  have hxs : (w.extract 0 i).size = i := by rw [ByteArray.size_extract]; omega
  have hvs : (w ++ rev (w.extract 0 i)).size = w.size + i := by rw [ByteArray.size_append, sz_rev, hxs]
  have hlt : (w.toList.take w.size) = w.toList := List.take_of_length_le (by rw [tl_len]; exact Nat.le_refl _)
  have hl := l01Is_ev w (by omega)
  rw [h] at hl
  have e1 : wrap64 ((w.size : Int) - ((w.size - i : Nat) : Int)) = (i : Int) := by rw [wrap_id (by omega) (by omega)]; omega
  have a1 : (0 : Int) ≤ (i : Int) := by omega
  have a2 : (i : Int) ≤ (w.size : Int) := by omega
  have a3 : w.size + (rev (w.extract 0 i)).size ≤ 9223372036854775807 := by rw [sz_rev, hxs]; omega
  have hne : ¬ w.toList = ([] : List UInt8) := fun e => by have := tl_len w; rw [e] at this; simp at this; omega
  refine ⟨w ++ rev (w.extract 0 i), ?_, by omega, ?_, ?_, ?_, ?_⟩
  · unfold isPal at h3 ⊢
    rw [decide_eq_true_eq] at h3 ⊢
    rw [tl_extract, hlt] at h3
    rw [tl_append, rev_toList, tl_extract, List.drop_zero]
    have hsp : w.toList = w.toList.take i ++ w.toList.drop i := (List.take_append_drop i _).symm
    generalize w.toList.take i = U at hsp ⊢
    generalize w.toList.drop i = V at hsp h3
    rw [hsp, List.reverse_append, List.reverse_append, List.reverse_reverse, ← h3, List.append_assoc]
  · refine ba_inj.1 ?_
    rw [tl_extract, tl_append, List.drop_zero, ← tl_len w, List.take_left]
  · intro hv
    rw [isW_iff] at h ⊢
    refine ⟨hv, fun b hb => ?_⟩
    rw [tl_append, List.mem_append, rev_toList, List.mem_reverse, tl_extract, List.drop_zero] at hb
    exact hb.elim (h.2 b) (fun g => h.2 b (List.mem_of_mem_take g))
  · unfold impl_ClosureOf.f
    simp only [always_f, Option.bind_some, codeW_one h, if_true]
    have : Ev (fun k => impl_closure.f k w) (w ++ rev (w.extract 0 i)) := by
      unfold impl_closure.f
      refine ev_bnd (a := ((w.size - i : Nat) : Int)) ⟨i + 1, fun k hk => ending_loop w (by omega) i h1 h3 h4 i k 0 (by omega) (by omega)⟩ ?_
      simp only [e1, a1, a2, if_true, Int.toNat_natCast, reversed_f (w.extract 0 i) (by rw [hxs]; omega), Option.bind_some, a3]
      exact ev_of rfl
    refine ev_bnd this ?_
    by_cases hv : (w ++ rev (w.extract 0 i)).size > 60
    · simp only [hv, if_true, show ((w ++ rev (w.extract 0 i)).size : Int) > 60 by omega]; exact ev_of rfl
    · simp only [hv, if_false, show ¬ ((w ++ rev (w.extract 0 i)).size : Int) > 60 by omega]; exact ev_of rfl
  · unfold spec_ClosureOf.f
    refine ev_bnd hl ?_
    simp only [if_true]
    have : Ev (fun k => spec_l04Closure.f k w) (w ++ rev (w.extract 0 i)) := by
      unfold spec_l04Closure.f
      simp only [hne, if_false]
      refine ev_bnd (a := ((w.size - i : Nat) : Int)) ⟨5000, fun k hk => l04End_loop w (by omega) i h2 h3 h4 i k 0 (by omega) (by omega)⟩ ?_
      simp only [e1, a1, a2, if_true, Int.toNat_natCast]
      refine ev_bnd (srev_ev _ (by rw [hxs]; omega)) ?_
      simp only [a3, if_true]
      exact ev_of rfl
    refine ev_bnd this ?_
    by_cases hv : (w ++ rev (w.extract 0 i)).size > 60
    · simp only [hv, if_true, show ((w ++ rev (w.extract 0 i)).size : Int) > 60 by omega]; exact ev_of rfl
    · simp only [hv, if_false, show ¬ ((w ++ rev (w.extract 0 i)).size : Int) > 60 by omega]; exact ev_of rfl

end Go.Proofs.Ytidndnjkjjcbbaa.PF
