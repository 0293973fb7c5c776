/- The program's FactorEdges and the reference's FactorEdges return the same rows of numbers and the same code, and the rows are their own: the edges of the graph of a length. -/
import Derived.Test.YtlehnijikmbkjaaPFLibQ
import Derived.Test.YtlehnijikmbkjaaPFLibE
import Derived.Test.YtlehnijikmbkjaaPFLibFs
import Derived.Test.YtlehnijikmbkjaaPFGivD
import Derived.Test.YtlehnijikmbkjaaPFx26
import Derived.Test.YtlehnijikmbkjaaPFx7
import Derived.Test.YtlehnijikmbkjaaPFx19
import Derived.Test.YtlehnijikmbkjaaPFx20
import Derived.Test.YtlehnijikmbkjaaPFx21
import Derived.Test.YtlehnijikmbkjaaPFx24
import Derived.Test.YtlehnijikmbkjaaPFx25
namespace Go.Proofs.Ytlehnijikmbkjaa.PF
open Go.RowKit Go.Proofs.YtlehnijikmbkjaaW.PrintWords Go.Proofs.YtlehnijikmbkjaaW.PrintLast Go.Proofs.YtlehnijikmbkjaaW.PrintMore
set_option linter.unusedVariables false
set_option linter.unusedSimpArgs false
set_option maxRecDepth 20000

/-! ### the number of a word -/
theorem number_ev (l : List ByteArray) (hl : l.length ≤ 1000000) (hS : SS l) (p : Nat) (hp : p < l.length) : ∀ (d k i : Nat), i + d = p → d < k → spec_l05Number.l0 k l l[p] (i : Int) = some (p : Int) := by
  intro d
  induction d with
  | zero =>
    intro k i hi hk
    obtain ⟨k, rfl⟩ : ∃ m, k = m + 1 := ⟨k - 1, by omega⟩
    have e : i = p := by omega
    subst e
    simp only [spec_l05Number.l0]
    rw [if_pos (by omega), if_pos (by omega), rdOf_nat _ _ i hp, if_pos rfl]
  | succ d ih =>
    intro k i hi hk
    obtain ⟨k, rfl⟩ : ∃ m, k = m + 1 := ⟨k - 1, by omega⟩
    have hip : i < l.length := by omega
    have hne : ¬ l[i].toList = l[p].toList := by
      have h1 : l[i].toList < l[p].toList := List.pairwise_iff_getElem.1 hS i p hip hp (by omega)
      intro e; rw [e] at h1; exact absurd h1 (List.lt_irrefl _)
    simp only [spec_l05Number.l0]
    rw [if_pos (by omega), if_pos (by omega), rdOf_nat _ _ i hip, if_neg hne, wrap_succ (by omega)]
    exact ih k (i + 1) (by omega) (by omega)

theorem less_f (a b : ByteArray) : cmp_Less_string.f a b = some (Op.bytesLess a.toList b.toList) := by
  simp [cmp_Less_string.f, cmp_isNaN_string.f]

theorem half {lo hi : Nat} (h : lo + hi ≤ 4000000) : wrap64 ((IntKind.u64.wrap (wrap64 ((lo : Int) + (hi : Int)))) / 2) = (((lo + hi) / 2 : Nat) : Int) := by
  rw [show wrap64 ((lo : Int) + (hi : Int)) = ((lo + hi : Nat) : Int) from wrap_nat (n := lo + hi) (by omega) (by omega)]
  have e : IntKind.u64.wrap (((lo + hi : Nat) : Int)) = ((lo + hi : Nat) : Int) := by
    simp only [IntKind.wrap]
    first | omega | (simp [IntKind.bits, IntKind.signed]; omega)
  rw [e, wrap_nat (n := (lo + hi) / 2) (by omega) (by omega)]

theorem search_ev (l : List ByteArray) (hl : l.length ≤ 1000000) (hS : SS l) (p : Nat) (hp : p < l.length) : ∀ (d k lo hi : Nat), hi - lo ≤ d → lo ≤ p → p ≤ hi → hi ≤ l.length → d < k →
    slices_BinarySearch_string_string.l0 k l l[p] (l.length : Int) (lo : Int) (hi : Int) = some ((p : Int), true) := by
  intro d
  induction d with
  | zero =>
    intro k lo hi hd h1 h2 h3 hk
    obtain ⟨k, rfl⟩ : ∃ m, k = m + 1 := ⟨k - 1, by omega⟩
    have e1 : lo = p := by omega
    have e2 : hi = p := by omega
    subst e1; subst e2
    simp only [slices_BinarySearch_string_string.l0]
    rw [if_neg (by omega), if_pos (by omega), if_pos (by omega), if_pos (by omega), rdOf_nat _ _ hi hp, if_pos rfl]
  | succ d ih =>
    intro k lo hi hd h1 h2 h3 hk
    by_cases hlh : lo < hi
    · obtain ⟨k, rfl⟩ : ∃ m, k = m + 1 := ⟨k - 1, by omega⟩
      simp only [slices_BinarySearch_string_string.l0, half (show lo + hi ≤ 4000000 by omega)]
      have hm : (lo + hi) / 2 < l.length := by omega
      have hm1 : lo ≤ (lo + hi) / 2 := by omega
      have hm2 : (lo + hi) / 2 < hi := by omega
      generalize (lo + hi) / 2 = q at hm hm1 hm2
      rw [if_pos (by omega), if_pos (by omega), if_pos (by omega), rdOf_nat _ _ q hm, less_f, Option.bind_some]
      by_cases hc : Op.bytesLess l[q].toList l[p].toList = true
      · rw [if_pos hc, wrap_succ (by omega)]
        have hlt := (less_iff _ _).1 hc
        have hqp : q < p := by
          rcases Nat.lt_or_ge q p with h | h
          · exact h
          · rcases Nat.lt_or_eq_of_le h with h | h
            · have := List.pairwise_iff_getElem.1 hS p q hp hm h
              exact absurd (List.lt_trans this hlt) (List.lt_irrefl _)
            · subst h; exact absurd hlt (List.lt_irrefl _)
        exact ih k (q + 1) hi (by omega) (by omega) h2 h3 (by omega)
      · rw [if_neg hc]
        have hqp : p ≤ q := by
          rcases Nat.lt_or_ge q p with h | h
          · exact absurd ((less_iff _ _).2 (List.pairwise_iff_getElem.1 hS q p hm hp h)) hc
          · exact h
        exact ih k lo q (by omega) h1 hqp (by omega) (by omega)
    · have := ih k lo hi (by omega) h1 h2 h3 (by omega)
      exact this

/-- The place of a word in a list. -/
def plcOf (l : List ByteArray) (x : ByteArray) : Nat := l.findIdx fun y => decide (y.toList = x.toList)
theorem plcOf_spec (l : List ByteArray) (x : ByteArray) (h : x ∈ l) : ∃ hp : plcOf l x < l.length, l[plcOf l x] = x := by
  have hp : plcOf l x < l.length := List.findIdx_lt_length_of_exists ⟨x, h, by simp⟩
  refine ⟨hp, ?_⟩
  have := List.findIdx_getElem (w := hp)
  exact ba_inj.1 (of_decide_eq_true this)

theorem number_f (l : List ByteArray) (hl : l.length ≤ 1000000) (hS : SS l) (x : ByteArray) (h : x ∈ l) (k : Nat) (hk : l.length < k) : spec_l05Number.f k l x = some (plcOf l x : Int) := by
  obtain ⟨hp, e⟩ := plcOf_spec l x h
  have := number_ev l hl hS (plcOf l x) hp (plcOf l x) k 0 (by omega) (by omega)
  rw [e] at this
  exact this
theorem search_f (l : List ByteArray) (hl : l.length ≤ 1000000) (hS : SS l) (x : ByteArray) (h : x ∈ l) (k : Nat) (hk : l.length < k) : slices_BinarySearch_string_string.f k l x = some ((plcOf l x : Int), true) := by
  obtain ⟨hp, e⟩ := plcOf_spec l x h
  have := search_ev l hl hS (plcOf l x) hp l.length k 0 l.length (by omega) (by omega) (by omega) (by omega) (by omega)
  rw [e] at this
  exact this

/-! ### edges -/
def edgeOf (l : List ByteArray) (m : Nat) (u : ByteArray) : List Int := [(plcOf l (u.extract 0 m) : Int), (plcOf l (u.extract 1 u.size) : Int)]
theorem fac_succ (w : ByteArray) (m : Nat) (u : ByteArray) (h : u ∈ fac w (m + 1)) : u.size = m + 1 ∧ u.extract 0 m ∈ fac w m ∧ u.extract 1 u.size ∈ fac w m := by
  obtain ⟨j, hj, rfl⟩ := (mem_fac w (m + 1) u).1 h
  have hs : (w.extract j (j + (m + 1))).size = m + 1 := by rw [extract_size w (by omega) (by omega)]; omega
  refine ⟨hs, (mem_fac w m _).2 ⟨j, by omega, ?_⟩, (mem_fac w m _).2 ⟨j + 1, by omega, ?_⟩⟩
  · rw [ByteArray.extract_extract]; congr 1; omega
  · rw [hs, ByteArray.extract_extract]; congr 1; omega

theorem spec_edges (w : ByteArray) (hw : w.size ≤ 1000) (m : Nat) (hm : m ≤ 100) : ∀ (d k i : Nat) (acc : List (List Int)), i + d = (fac w (m + 1)).length → acc.length = i → d + 2000 < k →
    spec_FactorEdges.l0 k (m : Int) (fac w m) (fac w (m + 1)) acc (i : Int) = some (acc ++ ((fac w (m + 1)).drop i).map (edgeOf (fac w m) m), 0) := by
  have hl1 := fac_length_le w m
  have hl2 := fac_length_le w (m + 1)
  intro d
  induction d with
  | zero =>
    intro k i acc hd ha hk
    obtain ⟨k, rfl⟩ : ∃ m, k = m + 1 := ⟨k - 1, by omega⟩
    simp only [spec_FactorEdges.l0]
    rw [if_neg (by omega), List.drop_eq_nil_of_le (by omega)]; simp
  | succ d ih =>
    intro k i acc hd ha hk
    obtain ⟨k, rfl⟩ : ∃ m, k = m + 1 := ⟨k - 1, by omega⟩
    have hi : i < (fac w (m + 1)).length := by omega
    obtain ⟨hs, hA, hB⟩ := fac_succ w m _ (List.getElem_mem hi)
    simp only [spec_FactorEdges.l0]
    rw [if_pos (by omega), if_pos (by omega), if_pos (by omega), rdOf_nat _ _ i hi]
    rw [if_pos (by omega), Int.toNat_natCast, number_f _ (by omega) (fac_SS w m) _ hA k (by omega), Option.bind_some, if_pos (by omega), number_f _ (by omega) (fac_SS w m) _ hB k (by omega), Option.bind_some, if_pos (by omega), wrap_succ (by omega)]
    rw [ih k (i + 1) _ (by omega) (by simp [ha]) (by omega), List.drop_eq_getElem_cons hi, List.map_cons]
    simp only [List.append_assoc, List.singleton_append]
    rfl

theorem impl_edges (w : ByteArray) (hw : w.size ≤ 1000) (m : Nat) (hm : m ≤ 100) : ∀ (d k i : Nat) (acc : List (List Int)), i + d = (fac w (m + 1)).length → acc.length = i → d + 2000 < k →
    impl_FactorEdges.l0 k (fac w m) acc (fac w (m + 1)) ((fac w (m + 1)).length : Int) (i : Int) (m : Int) = some (acc ++ ((fac w (m + 1)).drop i).map (edgeOf (fac w m) m), 0) := by
  have hl1 := fac_length_le w m
  have hl2 := fac_length_le w (m + 1)
  intro d
  induction d with
  | zero =>
    intro k i acc hd ha hk
    obtain ⟨k, rfl⟩ : ∃ m, k = m + 1 := ⟨k - 1, by omega⟩
    simp only [impl_FactorEdges.l0]
    rw [if_neg (by omega), List.drop_eq_nil_of_le (by omega)]; simp
  | succ d ih =>
    intro k i acc hd ha hk
    obtain ⟨k, rfl⟩ : ∃ m, k = m + 1 := ⟨k - 1, by omega⟩
    have hi : i < (fac w (m + 1)).length := by omega
    obtain ⟨hs, hA, hB⟩ := fac_succ w m _ (List.getElem_mem hi)
    simp only [impl_FactorEdges.l0]
    rw [if_pos (by omega), if_pos (by omega), if_pos (by omega), if_pos (by omega), rdOf_nat _ _ i hi]
    rw [if_pos (by omega), Int.toNat_natCast, search_f _ (by omega) (fac_SS w m) _ hA k (by omega), Option.bind_some, if_pos (by omega), search_f _ (by omega) (fac_SS w m) _ hB k (by omega), Option.bind_some, if_pos (by omega), wrap_succ (by omega)]
    rw [ih k (i + 1) _ (by omega) (by simp [ha]) (by omega), List.drop_eq_getElem_cons hi, List.map_cons]
    simp only [List.append_assoc, List.singleton_append]
    rfl

/-! ### rows of numbers -/
theorem eqI_loop' (l : List Int) (hl : l.length ≤ 4000000000000) : ∀ (d k i : Nat), i + d = l.length → d < k → laws_eqInt64S.l0 k l l (i : Int) = some true := by
  intro d
  induction d with
  | zero =>
    intro k i hd hk
    obtain ⟨k, rfl⟩ : ∃ m, k = m + 1 := ⟨k - 1, by omega⟩
    simp only [laws_eqInt64S.l0]; rw [if_neg (by omega)]
  | succ d ih =>
    intro k i hd hk
    obtain ⟨k, rfl⟩ : ∃ m, k = m + 1 := ⟨k - 1, by omega⟩
    simp only [laws_eqInt64S.l0]
    rw [if_pos (by omega), if_pos (by omega), if_pos (by omega), if_pos trivial, wrap_succ (by omega), ih k (i + 1) (by omega) (by omega)]

theorem eqI_ge (l : List Int) (hl : l.length ≤ 4000000000000) (k : Nat) (hk : l.length < k) : laws_eqInt64S.f k l l = some true := by
  have h := eqI_loop' l hl l.length k 0 (by omega) (by omega)
  simp only [laws_eqInt64S.f, if_true]; exact h
theorem rd_L2_get (l : List (List Int)) (i : Nat) (h : i < l.length) : rd_L2 l (i : Int) = l[i] := by simp [rd_L2, h]
theorem eqSS_loop (l : List (List Int)) (hl : l.length ≤ 4000000) (h2 : ∀ x ∈ l, x.length = 2) : ∀ (d k i : Nat), i + d = l.length → d + 10 < k → laws_eqInt64SS.l0 k l l (i : Int) = some true := by
  intro d
  induction d with
  | zero =>
    intro k i hd hk
    obtain ⟨k, rfl⟩ : ∃ m, k = m + 1 := ⟨k - 1, by omega⟩
    simp only [laws_eqInt64SS.l0]; rw [if_neg (by omega)]
  | succ d ih =>
    intro k i hd hk
    obtain ⟨k, rfl⟩ : ∃ m, k = m + 1 := ⟨k - 1, by omega⟩
    have hi : i < l.length := by omega
    have hx := h2 _ (List.getElem_mem hi)
    simp only [laws_eqInt64SS.l0]
    rw [if_pos (by omega), if_pos (by omega), if_pos (by omega), rd_L2_get l i hi, eqI_ge _ (by omega) k (by omega), Option.bind_some, if_pos rfl, wrap_succ (by omega), ih k (i + 1) (by omega) (by omega)]
theorem eqSS_ev (l : List (List Int)) (hl : l.length ≤ 4000000) (h2 : ∀ x ∈ l, x.length = 2) : Ev (fun k => laws_eqInt64SS.f k l l) true :=
  ⟨l.length + 11, fun k hk => by
    have h := eqSS_loop l hl h2 l.length k 0 (by omega) (by omega)
    simp only [laws_eqInt64SS.f, if_true]; exact h⟩

/-- Numbers from one on. -/
def upRow : Nat → Nat → List Int
  | 0, _ => []
  | n + 1, m => (m : Int) :: upRow n (m + 1)
theorem upRow_length : ∀ n m, (upRow n m).length = n
  | 0, _ => rfl
  | n + 1, m => by simp [upRow, upRow_length n (m + 1)]
theorem markRow : ∀ (rest pre : List Int) (m k : Nat), pre.length + rest.length ≤ 1000 → m + rest.length ≤ 100000000 → rest.length < k →
    laws_markInt64S.l0 k (pre ++ rest) (m : Int) (pre.length : Int) = some (((m + rest.length : Nat) : Int), pre ++ upRow rest.length m) := by
  intro rest
  induction rest with
  | nil =>
    intro pre m k h1 h2 hk
    obtain ⟨k, rfl⟩ : ∃ m, k = m + 1 := ⟨k - 1, by omega⟩
    simp only [laws_markInt64S.l0]
    rw [if_neg (by simp)]; simp [upRow]
  | cons x rest ih =>
    intro pre m k h1 h2 hk
    simp only [List.length_cons] at h1 h2 hk
    obtain ⟨k, rfl⟩ : ∃ m, k = m + 1 := ⟨k - 1, by omega⟩
    have hlen : (pre ++ x :: rest).length = pre.length + rest.length + 1 := by simp; omega
    rw [laws_markInt64S.l0, if_pos (by omega), if_pos (by omega), Int.toNat_natCast, wrap_succ (by omega), wrap_succ (by omega)]
    have e : (pre ++ x :: rest).set pre.length (m : Int) = (pre ++ [(m : Int)]) ++ rest := by simp
    have := ih (pre ++ [(m : Int)]) (m + 1) k (by simp; omega) (by omega) (by omega)
    rw [e]
    simp only [List.length_append, List.length_singleton] at this
    rw [this]
    simp [upRow]; omega
theorem heldRow : ∀ (n : Nat) (pre : List Int) (m k : Nat), pre.length + n ≤ 1000 → m + n ≤ 100000000 → n < k →
    laws_heldInt64S.l0 k (pre ++ upRow n m) (m : Int) (pre.length : Int) = some ((m + n : Nat) : Int) := by
  intro n
  induction n with
  | zero =>
    intro pre m k h1 h2 hk
    obtain ⟨k, rfl⟩ : ∃ m, k = m + 1 := ⟨k - 1, by omega⟩
    rw [laws_heldInt64S.l0, show upRow 0 m = [] from rfl, List.append_nil, if_neg (by omega)]; rfl
  | succ n ih =>
    intro pre m k h1 h2 hk
    obtain ⟨k, rfl⟩ : ∃ m, k = m + 1 := ⟨k - 1, by omega⟩
    rw [laws_heldInt64S.l0, show upRow (n + 1) m = (m : Int) :: upRow n (m + 1) from rfl]
    have hlen : (pre ++ (m : Int) :: upRow n (m + 1)).length = pre.length + n + 1 := by simp [upRow_length]; omega
    have hrd : rd (pre ++ (m : Int) :: upRow n (m + 1)) (pre.length : Int) = (m : Int) := by rw [rd_nat _ _ (by omega)]; simp
    rw [if_pos (by omega), if_pos (by omega), hrd, if_pos rfl, wrap_succ (by omega), wrap_succ (by omega)]
    have := ih (pre ++ [(m : Int)]) (m + 1) k (by simp; omega) (by omega) (by omega)
    simp only [List.length_append, List.length_singleton, List.append_assoc, List.singleton_append] at this
    rw [this]
    congr 2; omega

def upRows : Nat → Nat → List (List Int)
  | 0, _ => []
  | n + 1, m => upRow 2 m :: upRows n (m + 2)
theorem upRows_length : ∀ n m, (upRows n m).length = n
  | 0, _ => rfl
  | n + 1, m => by simp [upRows, upRows_length n (m + 2)]
theorem markRows : ∀ (rest pre : List (List Int)) (m k : Nat), (∀ x ∈ rest, x.length = 2) → pre.length + rest.length ≤ 1000000 → m + 2 * rest.length ≤ 10000000 → rest.length + 10 < k →
    laws_markInt64SS.l0 k (pre ++ rest) (m : Int) (pre.length : Int) = some (((m + 2 * rest.length : Nat) : Int), pre ++ upRows rest.length m) := by
  intro rest
  induction rest with
  | nil =>
    intro pre m k h0 h1 h2 hk
    obtain ⟨k, rfl⟩ : ∃ m, k = m + 1 := ⟨k - 1, by omega⟩
    simp only [laws_markInt64SS.l0]
    rw [if_neg (by simp)]; simp [upRows]
  | cons x rest ih =>
    intro pre m k h0 h1 h2 hk
    simp only [List.length_cons] at h1 h2 hk
    obtain ⟨k, rfl⟩ : ∃ m, k = m + 1 := ⟨k - 1, by omega⟩
    have hx : x.length = 2 := h0 x (by simp)
    have hrow := markRow x [] m k (by simp [hx]) (by omega) (by omega)
    simp only [List.nil_append, List.length_nil, hx] at hrow
    have hg : (pre ++ x :: rest).getD pre.length [] = x := by simp
    have e : (pre ++ x :: rest).set pre.length (upRow 2 m) = (pre ++ [upRow 2 m]) ++ rest := by simp
    have hlen : (pre ++ x :: rest).length = pre.length + rest.length + 1 := by simp; omega
    rw [laws_markInt64SS.l0, if_pos (by omega), if_pos (by omega), Int.toNat_natCast, hg]
    rw [show laws_markInt64S.f k x (m : Int) = _ from hrow, Option.bind_some, wrap_succ (by omega)]
    simp only [e]
    have := ih (pre ++ [upRow 2 m]) (m + 2) k (fun y hy => h0 y (by simp [hy])) (by simp; omega) (by omega) (by omega)
    simp only [List.length_append, List.length_singleton] at this
    rw [this]
    simp [upRows]; omega
theorem heldRows : ∀ (n : Nat) (pre : List (List Int)) (m k : Nat), pre.length + n ≤ 1000000 → m + 2 * n ≤ 10000000 → n + 10 < k →
    laws_heldInt64SS.l0 k (pre ++ upRows n m) (m : Int) (pre.length : Int) = some ((m + 2 * n : Nat) : Int) := by
  intro n
  induction n with
  | zero =>
    intro pre m k h1 h2 hk
    obtain ⟨k, rfl⟩ : ∃ m, k = m + 1 := ⟨k - 1, by omega⟩
    rw [laws_heldInt64SS.l0, show upRows 0 m = [] from rfl, List.append_nil, if_neg (by omega)]; rfl
  | succ n ih =>
    intro pre m k h1 h2 hk
    obtain ⟨k, rfl⟩ : ∃ m, k = m + 1 := ⟨k - 1, by omega⟩
    have hrow := heldRow 2 [] m k (by simp) (by omega) (by omega)
    simp only [List.nil_append, List.length_nil] at hrow
    rw [laws_heldInt64SS.l0, show upRows (n + 1) m = upRow 2 m :: upRows n (m + 2) from rfl]
    have hlen : (pre ++ upRow 2 m :: upRows n (m + 2)).length = pre.length + n + 1 := by simp [upRows_length]; omega
    have hrd : rd_L2 (pre ++ upRow 2 m :: upRows n (m + 2)) (pre.length : Int) = upRow 2 m := by rw [rd_L2_get _ _ (by omega)]; simp
    rw [if_pos (by omega), if_pos (by omega), hrd, show laws_heldInt64S.f k (upRow 2 m) (m : Int) = _ from hrow, Option.bind_some, if_neg (by omega), wrap_succ (by omega)]
    have := ih (pre ++ [upRow 2 m]) (m + 2) k (by simp; omega) (by omega) (by omega)
    simp only [List.length_append, List.length_singleton, List.append_assoc, List.singleton_append] at this
    rw [this]
    congr 2; omega
theorem markSS_ev (l : List (List Int)) (h0 : ∀ x ∈ l, x.length = 2) (hl : l.length ≤ 1000000) : Ev (fun k => laws_markInt64SS.f k l 1) (((1 + 2 * l.length : Nat) : Int), upRows l.length 1) :=
  ⟨l.length + 11, fun k hk => by
    have := markRows l [] 1 k h0 (by simp; omega) (by omega) (by omega)
    exact this⟩
theorem heldSS_ev (n : Nat) (hl : n ≤ 1000000) : Ev (fun k => laws_heldInt64SS.f k (upRows n 1) 1) ((1 + 2 * n : Nat) : Int) :=
  ⟨n + 11, fun k hk => by
    have := heldRows n [] 1 k (by simp; omega) (by omega) (by omega)
    exact this⟩

end Go.Proofs.Ytlehnijikmbkjaa.PF

namespace Go.Proofs.Ytlehnijikmbkjaa.Pure
open Go.RowKit Go.Proofs.Ytlehnijikmbkjaa.PF Go.Proofs.YtlehnijikmbkjaaW.PrintWords Go.Proofs.YtlehnijikmbkjaaW.PrintLast
set_option linter.unusedSimpArgs false
set_option linter.unusedVariables false
set_option maxRecDepth 20000

/-- Is a number a length? -/
def inL (m : Int) : Bool := decide (0 ≤ m) && decide (m ≤ 60)
theorem edges1_f (m : Int) : impl_FactorEdges_1.f m = some (inL m) := by
  unfold impl_FactorEdges_1.f impl_isLength.f impl_within.f inL
  by_cases h : (0 : Int) ≤ m
  · rw [if_pos h, decide_eq_true h, Bool.true_and]; rfl
  · rw [if_neg h, decide_eq_false h, Bool.false_and]; rfl
theorem l01In_f (m : Int) : spec_l01In.f m 0 60 = some (inL m) := by
  unfold spec_l01In.f inL
  by_cases h : (0 : Int) ≤ m
  · rw [if_pos h, decide_eq_true h, Bool.true_and]
  · rw [if_neg h, decide_eq_false h, Bool.false_and]

/-- What follows the first run: the rows are the same, are marked and stay. -/
theorem law_of {w : ByteArray} {m : Int} {l : List (List Int)} {c : Int} (h2 : ∀ x ∈ l, x.length = 2) (hl : l.length ≤ 1000000) (hw : ¬ (w.size : Int) > 1048576)
    (hs : Ev (fun k => spec_FactorEdges.f k w m) (l, c)) (hi : Ev (fun k => impl_FactorEdges.f k w m) (l, c)) : Ev (fun k => laws_FnExactFactorEdges.f k w m) true := by
  unfold laws_FnExactFactorEdges.f
  simp only [hw, if_false]
  have hm := markSS_ev l h2 hl
  have hh := heldSS_ev l.length hl
  have he := eqSS_ev l (by omega) h2
  refine ev_bnd hs (ev_bnd hi (ev_bnd he ?_))
  simp only [if_true, bne_false]
  refine ev_suc ?_
  simp only [laws_FnExactFactorEdges.j0, Bool.false_eq_true, if_false]
  refine ev_bnd hm ?_
  refine ev_bnd hh ?_
  have hn : ¬ ((1 + 2 * l.length : Nat) : Int) < 0 := by omega
  simp only [hn, if_false, if_true]
  refine ev_bnd hi (ev_bnd he ?_)
  simp only [if_true, bne_false]
  refine ev_suc ?_
  simp only [laws_FnExactFactorEdges.j1, Bool.false_eq_true, if_false]
  refine ev_bnd hh ?_
  simp only [hn, if_false, if_true]
  exact ev_of rfl

theorem FnExactFactorEdges : laws_FnExactFactorEdges.Pure := by
  intro w m hw hm
  refine ev_get ?_
  by_cases hgw : (w.size : Int) > 1048576
  · unfold laws_FnExactFactorEdges.f
    simp only [hgw, if_true]; exact ev_of rfl
  have hl := l01Is_ev w (by omega)
  have hnil : ∀ c : Int, Ev (fun k => spec_FactorEdges.f k w m) ([], c) → Ev (fun k => impl_FactorEdges.f k w m) ([], c) → Ev (fun k => laws_FnExactFactorEdges.f k w m) true :=
    fun c h1 h2 => law_of (l := []) (by simp) (by simp) hgw h1 h2
  by_cases h0 : isW w = true
  · have hs := isW_size h0
    rw [h0] at hl
    by_cases h1 : inL m = true
    · have hc : codeW (inL m) [w] = 0 := codeW_zero.2 ⟨by simp [h0], h1⟩
      have hr := h1
      simp only [inL, Bool.and_eq_true, decide_eq_true_eq] at hr
      obtain ⟨n, rfl⟩ : ∃ n : Nat, m = n := ⟨m.toNat, by omega⟩
      have hcode : Ev (fun k => spec_l05Code.f k w (n : Int)) 0 := by
        unfold spec_l05Code.f
        refine ev_bnd hl ?_
        simp only [l01In_f, if_true, Option.bind_some, h1]; exact ev_of rfl
      have hsf := spec_factors_ev w n (by omega) (by omega)
      have hif := impl_factors_ev w n (by omega) (by omega)
      have hsf2 := spec_factors_ev w (n + 1) (by omega) (by omega)
      have hif2 := impl_factors_ev w (n + 1) (by omega) (by omega)
      have hfl := fac_length_le w (n + 1)
      have hws : wrap64 ((n : Int) + 1) = ((n + 1 : Nat) : Int) := wrap_succ (by omega)
      refine law_of (l := (fac w (n + 1)).map (edgeOf (fac w n) n)) (c := 0) ?_ (by simp; omega) hgw ?_ ?_
      · intro x hx
        obtain ⟨u, _, rfl⟩ := List.mem_map.1 hx
        rfl
      · unfold spec_FactorEdges.f
        refine ev_bnd hcode ?_
        simp only [if_true, hws]
        refine ev_bnd hsf (ev_bnd hsf2 ?_)
        refine ⟨5000, fun k hk => ?_⟩
        have := spec_edges w (by omega) n (by omega) (fac w (n + 1)).length k 0 [] (by omega) rfl (by omega)
        simpa using this
      · unfold impl_FactorEdges.f
        simp only [edges1_f, wordCode_f, Option.bind_some, hc, if_true, hws]
        refine ev_bnd hif (ev_bnd hif2 ?_)
        refine ⟨5000, fun k hk => ?_⟩
        have := impl_edges w (by omega) n (by omega) (fac w (n + 1)).length k 0 [] (by omega) rfl (by omega)
        simpa using this
    · have h1' : inL m = false := by simpa using h1
      have hc : codeW (inL m) [w] = 2 := by simp [codeW, h0, h1']
      refine hnil 2 ?_ ?_
      · unfold spec_FactorEdges.f spec_l05Code.f
        refine ev_bnd (a := (2 : Int)) (ev_bnd hl ?_) ?_
        · simp only [l01In_f, if_true, Option.bind_some, h1', Bool.false_eq_true, if_false]; exact ev_of rfl
        · simp only [show ¬ ((2 : Int) = 0) by omega, if_false]; exact ev_of rfl
      · unfold impl_FactorEdges.f
        simp only [edges1_f, wordCode_f, Option.bind_some, hc, show ¬ ((2 : Int) = 0) by omega, if_false]; exact ev_of rfl
  · have hc : codeW (inL m) [w] = 1 := by simp [codeW, h0]
    have h0' : isW w = false := by simpa using h0
    rw [h0'] at hl
    refine hnil 1 ?_ ?_
    · unfold spec_FactorEdges.f spec_l05Code.f
      refine ev_bnd (a := (1 : Int)) (ev_bnd hl ?_) ?_
      · simp only [Bool.false_eq_true, if_false]; exact ev_of rfl
      · simp only [show ¬ ((1 : Int) = 0) by omega, if_false]; exact ev_of rfl
    · unfold impl_FactorEdges.f
      simp only [edges1_f, wordCode_f, Option.bind_some, hc, show ¬ ((1 : Int) = 0) by omega, if_false]; exact ev_of rfl

end Go.Proofs.Ytlehnijikmbkjaa.Pure
