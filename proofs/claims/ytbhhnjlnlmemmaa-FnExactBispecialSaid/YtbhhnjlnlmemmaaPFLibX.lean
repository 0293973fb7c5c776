/- Special factors: the program's list and the reference's list. -/
import Derived.Test.YtbhhnjlnlmemmaaPFLibP
import Derived.Test.YtbhhnjlnlmemmaaPFGivC
import Derived.Test.YtbhhnjlnlmemmaaPFx17
import Derived.Test.YtbhhnjlnlmemmaaPFx18
namespace Go.Proofs.Ytbhhnjlnlmemmaa.PF
open Go.RowKit Go.Proofs.YtbhhnjlnlmemmaaW.PrintWords Go.Proofs.YtbhhnjlnlmemmaaW.PrintLast Go.Proofs.YtbhhnjlnlmemmaaW.PrintMore
set_option linter.unusedVariables false
set_option linter.unusedSimpArgs false

theorem hasSuffix_f (a b : ByteArray) (ha : a.size ≤ 4000000000000000000) : strings_HasSuffix.f a b = some (decide (b.size ≤ a.size ∧ a.extract (a.size - b.size) a.size = b)) := by
  unfold strings_HasSuffix.f stringslite_HasSuffix.f
  by_cases h : b.size ≤ a.size
  · rw [wrap_nat (n := a.size - b.size) (by omega) (by omega)]
    simp only [show (a.size : Int) ≥ (b.size : Int) by omega, show (0 : Int) ≤ ((a.size - b.size : Nat) : Int) by omega, if_true, show ((a.size - b.size : Nat) : Int) ≤ (a.size : Int) by omega, Int.toNat_natCast, Option.bind_some, h, true_and]
    rw [Bool.beq_eq_decide_eq]
    simp only [ba_toList_inj]
  · simp only [show ¬ (a.size : Int) ≥ (b.size : Int) by omega, if_false, Option.bind_some, h, false_and, decide_false]

theorem filterP_some {α : Type} {p : α → Option Bool} {q : α → Bool} : ∀ (l : List α), (∀ x ∈ l, p x = some (q x)) → filterP p l = some (l.filter fun x => !q x)
  | [], _ => rfl
  | x :: l, h => by
    rw [filterP, h x (by simp), filterP_some l (fun y hy => h y (by simp [hy]))]
    simp only [Option.bind_some, List.filter_cons]
    cases q x <;> simp

theorem cntP_some {α : Type} {p : α → Option Bool} {q : α → Bool} : ∀ (l : List α), (∀ x ∈ l, p x = some (q x)) → cntP p l = some (l.countP q)
  | [], _ => rfl
  | x :: l, h => by
    rw [cntP, h x (by simp), cntP_some l (fun y hy => h y (by simp [hy]))]
    simp only [Option.bind_some, List.countP_cons]
    cases q x <;> simp

instance baLaw : LawfulBEq ByteArray where
  eq_of_beq {a b} h := by
    cases a with | mk a => cases b with | mk b =>
    have : (a == b) = true := h
    rw [eq_of_beq this]
  rfl {a} := by
    cases a with | mk a =>
    show (a == a) = true
    exact BEq.rfl

/-- A factor without its last letter (right) or without its first. -/
def cutF (right : Bool) (m : Nat) (v : ByteArray) : ByteArray := if right = true then v.extract 0 m else v.extract 1 v.size

theorem fac_size {w v : ByteArray} {m : Nat} (h : v ∈ fac w m) : v.size = m := by
  obtain ⟨j, h1, rfl⟩ := (mem_fac w m v).1 h
  rw [ByteArray.size_extract]; omega

theorem cut_mem {w v : ByteArray} {m : Nat} (right : Bool) (h : v ∈ fac w (m + 1)) : cutF right m v ∈ fac w m := by
  obtain ⟨j, h1, rfl⟩ := (mem_fac w (m + 1) v).1 h
  rw [mem_fac]
  cases right
  · refine ⟨j + 1, by omega, ?_⟩
    simp only [cutF, Bool.false_eq_true, if_false]
    rw [ByteArray.extract_extract, ByteArray.size_extract]
    congr 1; omega
  · refine ⟨j, by omega, ?_⟩
    simp only [cutF, if_true]
    rw [ByteArray.extract_extract]
    congr 1; omega

theorem dup_iff {α : Type} [BEq α] [LawfulBEq α] {l : List α} {u : α} : (∃ i j, ∃ (hi : i < l.length) (hj : j < i), l[j] = u ∧ l[i] = u) ↔ 2 ≤ l.count u := by
  constructor
  · rintro ⟨i, j, hi, hj, h1, h2⟩
    have e : l = l.take i ++ l.drop i := (List.take_append_drop i l).symm
    have c1 : 0 < (l.take i).count u := List.count_pos_iff.2 (by rw [← h1, List.mem_take_iff_getElem]; exact ⟨j, by omega, rfl⟩)
    have c2 : 0 < (l.drop i).count u := List.count_pos_iff.2 (by rw [← h2, List.mem_drop_iff_getElem]; exact ⟨0, by omega, by simp⟩)
    rw [e, List.count_append]; omega
  · intro h
    have hm : u ∈ l := List.count_pos_iff.1 (by omega)
    obtain ⟨a, b, rfl, hna⟩ := List.eq_append_cons_of_mem hm
    rw [List.count_append, List.count_cons_self, List.count_eq_zero_of_not_mem hna] at h
    have hb : u ∈ b := List.count_pos_iff.1 (by omega)
    obtain ⟨n, hn, e⟩ := List.getElem_of_mem hb
    refine ⟨a.length + 1 + n, a.length, by simp; omega, by omega, by simp, ?_⟩
    rw [List.getElem_append_right (by omega)]
    simp only [show a.length + 1 + n - a.length = n + 1 by omega, List.getElem_cons_succ]
    exact e

/-- The special factors. -/
def spc (w : ByteArray) (m : Nat) (right : Bool) : List ByteArray := (fac w m).filter fun u => decide (2 ≤ ((fac w (m + 1)).map (cutF right m)).count u)

theorem spc_SS (w : ByteArray) (m : Nat) (right : Bool) : SS (spc w m right) := List.Pairwise.filter _ (fac_SS w m)
theorem mem_spc {w u : ByteArray} {m : Nat} {right : Bool} : u ∈ spc w m right ↔ 2 ≤ ((fac w (m + 1)).map (cutF right m)).count u := by
  unfold spc
  rw [List.mem_filter, decide_eq_true_eq]
  constructor
  · exact fun h => h.2
  · intro h
    refine ⟨?_, h⟩
    obtain ⟨v, hv, rfl⟩ := List.mem_map.1 (List.count_pos_iff.1 (Nat.lt_of_lt_of_le (by omega) h))
    exact cut_mem right hv
theorem spc_length (w : ByteArray) (m : Nat) (right : Bool) : (spc w m right).length ≤ w.size + 1 := by
  have h1 := List.length_filter_le (fun u => decide (2 ≤ ((fac w (m + 1)).map (cutF right m)).count u)) (fac w m)
  have h2 := fac_length_le w m
  unfold spc; omega

theorem lessTwo_of {w : ByteArray} {m : Nat} {right : Bool} {p : ByteArray → ByteArray → Option Bool} (hp : ∀ v u, v.size = m + 1 → u.size = m → p v u = some (decide (cutF right m v = u))) {u : ByteArray} (hu : u.size = m) :
    lessTwo p (fac w (m + 1)) u = some (!decide (2 ≤ ((fac w (m + 1)).map (cutF right m)).count u)) := by
  unfold lessTwo
  rw [cntP_some (q := fun v => decide (cutF right m v = u)) _ (fun v hv => hp v u (fac_size hv) hu)]
  simp only [Option.bind_some]
  rw [List.count, List.countP_map, show ((fun x => x == u) ∘ cutF right m) = (fun v => decide (cutF right m v = u)) from funext fun v => by simp only [Function.comp]; by_cases e : cutF right m v = u <;> simp [e]]
  congr 1
  rw [← decide_not, decide_eq_decide]; omega

theorem impl_special_ev (w : ByteArray) (m : Nat) (right : Bool) (p : Nat → ByteArray → ByteArray → Option Bool) (hw : w.size ≤ 60) (hm : m ≤ 60) (hp : ∀ k v u, v.size = m + 1 → u.size = m → p k v u = some (decide (cutF right m v = u))) :
    Ev (fun k => impl_special.f k w (m : Int) (p k)) (spc w m right) := by
  unfold impl_special.f
  rw [show wrap64 ((m : Int) + 1) = ((m + 1 : Nat) : Int) from wrap_succ (by omega)]
  refine ev_bnd (impl_factors_ev w (m + 1) (by omega) (by omega)) (ev_bnd (impl_factors_ev w m (by omega) (by omega)) ⟨0, fun k _ => ?_⟩)
  show filterP _ _ = _
  rw [filterP_some _ (fun u hu => lessTwo_of (hp k) (fac_size hu))]
  simp only [Bool.not_not]; rfl

theorem prefix_cut {m : Nat} (hm : m ≤ 60) (v u : ByteArray) (hv : v.size = m + 1) (hu : u.size = m) : strings_HasPrefix.f v u = some (decide (cutF true m v = u)) := by
  rw [hasPrefix_f _ _ (by omega), hu]
  simp only [show m ≤ v.size by omega, true_and, cutF, if_true]
theorem suffix_cut {m : Nat} (hm : m ≤ 60) (v u : ByteArray) (hv : v.size = m + 1) (hu : u.size = m) : strings_HasSuffix.f v u = some (decide (cutF false m v = u)) := by
  rw [hasSuffix_f _ _ (by omega), hu, show v.size - m = 1 by omega]
  simp only [show m ≤ v.size by omega, true_and, cutF, Bool.false_eq_true, if_false]

/-! ### the reference -/
def rowD (x : List ByteArray) (i : Nat) : Nat → Nat → List ByteArray
  | 0, _ => []
  | d + 1, j => if (rdOf ByteArray.empty x (j : Int)) = (rdOf ByteArray.empty x (i : Int)) then rdOf ByteArray.empty x (i : Int) :: rowD x i d (j + 1) else rowD x i d (j + 1)
def allD (x : List ByteArray) : Nat → Nat → List ByteArray
  | 0, _ => []
  | d + 1, i => rowD x i i 0 ++ allD x d (i + 1)
theorem rowD_length (x : List ByteArray) (i : Nat) : ∀ d j, (rowD x i d j).length ≤ d
  | 0, _ => Nat.le_refl _
  | d + 1, j => by
    have := rowD_length x i d (j + 1)
    rw [rowD]; split
    · rw [List.length_cons]; omega
    · omega
theorem mem_rowD (x : List ByteArray) (i : Nat) (u : ByteArray) : ∀ d j, u ∈ rowD x i d j ↔ rdOf ByteArray.empty x (i : Int) = u ∧ ∃ j', j ≤ j' ∧ j' < j + d ∧ rdOf ByteArray.empty x (j' : Int) = u
  | 0, j => by simp [rowD]; intro _ j' h1 h2; omega
  | d + 1, j => by
    rw [rowD]
    split
    · rename_i c
      rw [List.mem_cons, mem_rowD x i u d (j + 1)]
      constructor
      · rintro (h | ⟨h1, j', h2, h3, h4⟩)
        · exact ⟨h.symm, j, by omega, by omega, by rw [c, h]⟩
        · exact ⟨h1, j', by omega, by omega, h4⟩
      · rintro ⟨h1, _⟩; exact .inl h1.symm
    · rename_i c
      rw [mem_rowD x i u d (j + 1)]
      constructor
      · rintro ⟨h1, j', h2, h3, h4⟩; exact ⟨h1, j', by omega, by omega, h4⟩
      · rintro ⟨h1, j', h2, h3, h4⟩
        refine ⟨h1, j', ?_, by omega, h4⟩
        by_cases e : j' = j
        · subst e; exact absurd (h4.trans h1.symm) c
        · omega
theorem mem_allD (x : List ByteArray) (u : ByteArray) : ∀ d i, u ∈ allD x d i ↔ ∃ i', i ≤ i' ∧ i' < i + d ∧ rdOf ByteArray.empty x (i' : Int) = u ∧ ∃ j', j' < i' ∧ rdOf ByteArray.empty x (j' : Int) = u
  | 0, i => by simp [allD]; intro i' h1 h2; omega
  | d + 1, i => by
    rw [allD, List.mem_append, mem_rowD, mem_allD x u d (i + 1)]
    constructor
    · rintro (⟨h1, j', _, h3, h4⟩ | ⟨i', h1, h2, h3, h4⟩)
      · exact ⟨i, by omega, by omega, h1, j', by omega, h4⟩
      · exact ⟨i', by omega, by omega, h3, h4⟩
    · rintro ⟨i', h1, h2, h3, j', h4, h5⟩
      by_cases e : i' = i
      · subst e; exact .inl ⟨h3, j', by omega, by omega, h5⟩
      · exact .inr ⟨i', by omega, by omega, h3, j', h4, h5⟩

theorem special_l2 (x : List ByteArray) (hx : x.length ≤ 100) (i : Nat) (hi : i < x.length) : ∀ (d k j : Nat) (acc : List ByteArray), j + d = i → acc.length + d + 1 < k → acc.length + d ≤ 1000000 →
    spec_l05Special.l2 (k + d + 1) (canon acc) x (i : Int) (j : Int) = spec_l05Special.l1 k (canon (acc ++ rowD x i d j)) x ((i + 1 : Nat) : Int) := by
  intro d
  induction d with
  | zero =>
    intro k j acc hd hk ha
    simp only [spec_l05Special.l2]
    rw [if_neg (by omega), wrap_succ (by omega)]
    simp [rowD]
  | succ d ih =>
    intro k j acc hd hk ha
    obtain ⟨q, hq⟩ : ∃ q, q = k + d + 1 := ⟨_, rfl⟩
    rw [show k + (d + 1) + 1 = q + 1 by omega]
    simp only [spec_l05Special.l2]
    rw [if_pos (by omega), if_pos (by omega), if_pos (by omega), if_pos (by omega), if_pos (by omega), wrap_succ (i := j) (by omega)]
    by_cases c : rdOf ByteArray.empty x (j : Int) = rdOf ByteArray.empty x (i : Int)
    · rw [if_pos (by rw [c]), put_ev _ _ (by omega) _ (by omega)]
      simp only [Option.bind_some]
      rw [rowD, if_pos c]
      have := ih k (j + 1) (acc ++ [rdOf ByteArray.empty x (i : Int)]) (by omega) (by simp; omega) (by simp; omega)
      rw [hq, this]; simp
    · rw [if_neg (by rw [ba_toList_inj]; exact c), rowD, if_neg c, hq, ih k (j + 1) acc (by omega) (by omega) (by omega)]

theorem special_l1 (x : List ByteArray) (hx : x.length ≤ 100) : ∀ (d k i : Nat) (acc : List ByteArray), i + d = x.length → acc.length ≤ i * 100 → d * 200 + 20000 < k →
    spec_l05Special.l1 k (canon acc) x (i : Int) = some (canon (acc ++ allD x d i)) := by
  intro d
  induction d with
  | zero =>
    intro k i acc hd ha hk
    obtain ⟨k, rfl⟩ : ∃ n, k = n + 1 := ⟨k - 1, by omega⟩
    simp only [spec_l05Special.l1]
    rw [if_neg (by omega)]; simp [allD]
  | succ d ih =>
    intro k i acc hd ha hk
    obtain ⟨k, rfl⟩ : ∃ n, k = n + i + 1 + 1 := ⟨k - i - 2, by omega⟩
    simp only [spec_l05Special.l1]
    have h2 := special_l2 x hx i (by omega) i k 0 acc (by omega) (by omega) (by omega)
    have hr := rowD_length x i i 0
    rw [if_pos (by omega), show (0 : Int) = ((0 : Nat) : Int) from rfl, h2, ih k (i + 1) _ (by omega) (by simp; omega) (by omega), allD]
    simp

theorem special_l0 (w : ByteArray) (m : Nat) (right : Bool) (hm : m ≤ 60) (hw : w.size ≤ 60) : ∀ (d k i : Nat) (acc : List ByteArray), i + d = (fac w (m + 1)).length → acc.length = i → d + 60000 < k →
    spec_l05Special.l0 k (m : Int) right (fac w (m + 1)) (canon []) acc (i : Int) = some (canon (allD (acc ++ ((fac w (m + 1)).drop i).map (cutF right m)) (fac w (m + 1)).length 0)) := by
  have hl := fac_length_le w (m + 1)
  intro d
  induction d with
  | zero =>
    intro k i acc hd ha hk
    obtain ⟨k, rfl⟩ : ∃ n, k = n + 1 := ⟨k - 1, by omega⟩
    simp only [spec_l05Special.l0]
    rw [if_neg (by omega), List.drop_eq_nil_of_le (by omega), List.map_nil, List.append_nil]
    have := special_l1 acc (by omega) acc.length k 0 [] (by omega) (by simp) (by omega)
    rw [show (0 : Int) = ((0 : Nat) : Int) from rfl, this, show acc.length = (fac w (m + 1)).length by omega]; rfl
  | succ d ih =>
    intro k i acc hd ha hk
    obtain ⟨k, rfl⟩ : ∃ n, k = n + 1 := ⟨k - 1, by omega⟩
    have hsz : (rdOf ByteArray.empty (fac w (m + 1)) (i : Int)).size = m + 1 := by rw [rdOf_nat _ _ _ (by omega)]; exact fac_size (List.getElem_mem _)
    have hdr : (fac w (m + 1)).drop i = rdOf ByteArray.empty (fac w (m + 1)) (i : Int) :: (fac w (m + 1)).drop (i + 1) := by rw [rdOf_nat _ _ _ (by omega), List.drop_eq_getElem_cons (by omega)]
    simp only [spec_l05Special.l0]
    rw [if_pos (by omega), hdr, List.map_cons]
    cases right
    · rw [if_neg (by simp), if_pos (by omega), if_pos (by omega), if_pos (by omega), wrap_succ (by omega), ih k (i + 1) _ (by omega) (by simp [ha]) (by omega)]
      simp [cutF]
    · rw [if_pos rfl, if_pos (by omega), if_pos (by omega), if_pos (by omega), if_pos (by omega), wrap_succ (by omega), ih k (i + 1) _ (by omega) (by simp [ha]) (by omega)]
      simp [cutF]

theorem spec_special_ev (w : ByteArray) (m : Nat) (right : Bool) (hw : w.size ≤ 60) (hm : m ≤ 60) : Ev (fun k => spec_l05Special.f k w (m : Int) right) (spc w m right) := by
  unfold spec_l05Special.f
  rw [show wrap64 ((m : Int) + 1) = ((m + 1 : Nat) : Int) from wrap_succ (by omega)]
  refine ev_bnd (spec_factors_ev w (m + 1) (by omega) (by omega)) ⟨(fac w (m + 1)).length + 60001, fun k hk => ?_⟩
  have h := special_l0 w m right hm hw (fac w (m + 1)).length k 0 [] (by omega) rfl (by omega)
  rw [canon_nil] at h
  show spec_l05Special.l0 k (m : Int) right (fac w (m + 1)) [] [] 0 = _
  rw [show (0 : Int) = ((0 : Nat) : Int) from rfl, h, List.drop_zero, List.nil_append]
  congr 1
  refine (canon_eq (spc_SS w m right) fun u => ?_).symm
  rw [mem_spc, mem_allD, ← dup_iff]
  have hln : ((fac w (m + 1)).map (cutF right m)).length = (fac w (m + 1)).length := List.length_map _
  constructor
  · rintro ⟨i, j, hi, hj, h1, h2⟩
    exact ⟨i, by omega, by omega, by rw [rdOf_nat _ _ _ hi]; exact h2, j, hj, by rw [rdOf_nat _ _ _ (by omega)]; exact h1⟩
  · rintro ⟨i, _, hi, h1, j, hj, h2⟩
    rw [rdOf_nat _ _ _ (by omega)] at h1 h2
    exact ⟨i, j, by omega, hj, h2, h1⟩

end Go.Proofs.Ytbhhnjlnlmemmaa.PF
