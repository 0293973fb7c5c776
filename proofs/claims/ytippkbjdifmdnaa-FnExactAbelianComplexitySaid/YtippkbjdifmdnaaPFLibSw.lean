/- Plain facts on words whose letters are put in order: by counting, as the reference does; by sorting, as the program does: the same word. -/
import Derived.Test.YtippkbjdifmdnaaPFLibW
import Derived.Test.YtippkbjdifmdnaaPFGivSe
import Derived.Test.YtippkbjdifmdnaaPFx0
namespace Go.Proofs.Ytippkbjdifmdnaa.PF
open Go.RowKit Go.Sort Go.Proofs.YtippkbjdifmdnaaW.PrintWords Go.Proofs.YtippkbjdifmdnaaW.PrintLast Go.Proofs.YtippkbjdifmdnaaW.PrintMore
set_option linter.unusedVariables false
set_option linter.unusedSimpArgs false

/-- Five numbers of letters as a list of letters in order. -/
def reps (a b c d e : Nat) : List Int := List.replicate a 97 ++ (List.replicate b 98 ++ (List.replicate c 99 ++ (List.replicate d 100 ++ List.replicate e 101)))
def repL (l : List Int) : List Int := reps (l.count 97) (l.count 98) (l.count 99) (l.count 100) (l.count 101)
def Lets (l : List Int) : Prop := ∀ x ∈ l, 97 ≤ x ∧ x ≤ 101

theorem repL_perm {l : List Int} (h : Lets l) : (repL l).Perm l := by
  rw [List.perm_iff_count]
  intro x
  unfold repL reps
  simp only [List.count_append, List.count_replicate, beq_iff_eq]
  by_cases h1 : x = 97
  · subst h1; simp
  by_cases h2 : x = 98
  · subst h2; simp
  by_cases h3 : x = 99
  · subst h3; simp
  by_cases h4 : x = 100
  · subst h4; simp
  by_cases h5 : x = 101
  · subst h5; simp
  have h6 : l.count x = 0 := List.count_eq_zero.2 fun hx => by have := h x hx; omega
  rw [h6]
  simp [Ne.symm h1, Ne.symm h2, Ne.symm h3, Ne.symm h4, Ne.symm h5]

theorem repL_sorted (l : List Int) : (repL l).Pairwise (· ≤ ·) := by
  unfold repL reps
  simp only [List.pairwise_append, List.pairwise_replicate, List.mem_append, List.mem_replicate]
  refine ⟨.inr (Int.le_refl _), ⟨.inr (Int.le_refl _), ⟨.inr (Int.le_refl _), ⟨.inr (Int.le_refl _), .inr (Int.le_refl _), ?_⟩, ?_⟩, ?_⟩, ?_⟩
  all_goals
    intro x hx y hy
    omega

theorem sortB_eq {l : List Int} (h : Lets l) : sortB l = repL l := by
  have hp := repL_perm h
  have hl := hp.length_eq
  have h1 := sorted_unique_holds (lt := ltInt) swo_ltInt (fun x y h1 h2 => by simp only [ltInt, decide_eq_false_iff_not] at h1 h2; omega) l.toArray (repL l).toArray
    ⟨by simp [hl], fun i hi => by
      have e1 : l.toArray[i]! = default := by rw [getElem!_neg]; simp at hi ⊢; omega
      have e2 : (repL l).toArray[i]! = default := by rw [getElem!_neg]; simp at hi ⊢; omega
      rw [e1, e2], by
      have e1 : ((repL l).toArray.extract 0 l.toArray.size).toList = repL l := by
        rw [Array.toList_extract]
        simp [List.extract_eq_take_drop, ← hl]
      have e2 : (l.toArray.extract 0 l.toArray.size).toList = l := by
        rw [Array.toList_extract]
        simp [List.extract_eq_take_drop]
      rw [e1, e2]
      exact hp⟩
    (fun i j _ hij hj => by
      have hj' : j < (repL l).length := by rw [hl]; simpa using hj
      have h2 := List.pairwise_iff_getElem.1 (repL_sorted l) i j (by omega) hj' hij
      rw [getElem!_pos _ j (by simpa using hj'), getElem!_pos _ i (by simp; omega)]
      simp only [ltInt, decide_eq_false_iff_not, List.getElem_toArray]
      omega)
  simpa [sortB] using h1.symm

theorem snum_append (a b : List Int) : strOfNums a ++ strOfNums b = strOfNums (a ++ b) := by
  refine ByteArray.ext ?_
  rw [ByteArray.data_append]
  unfold strOfNums
  simp
theorem snum_size (l : List Int) : (strOfNums l).size = l.length := by unfold strOfNums ByteArray.size; simp

/-! ### counting -/
theorem count_loop (w : ByteArray) (hw : w.size ≤ 1000) (hL : Lets (bytesOf w)) : ∀ (n k i a b c d e : Nat), i + n = w.size → n < k → a + n ≤ 1000 → b + n ≤ 1000 → c + n ≤ 1000 → d + n ≤ 1000 → e + n ≤ 1000 →
    spec_l01Count.l0 k w [(a : Int), (b : Int), (c : Int), (d : Int), (e : Int)] (i : Int) =
      some [((a + ((bytesOf w).drop i).count 97 : Nat) : Int), ((b + ((bytesOf w).drop i).count 98 : Nat) : Int), ((c + ((bytesOf w).drop i).count 99 : Nat) : Int), ((d + ((bytesOf w).drop i).count 100 : Nat) : Int), ((e + ((bytesOf w).drop i).count 101 : Nat) : Int)] := by
  intro n
  induction n with
  | zero =>
    intro k i a b c d e hi hk _ _ _ _ _
    obtain ⟨k, rfl⟩ : ∃ k', k = k' + 1 := ⟨k - 1, by omega⟩
    have hd : (bytesOf w).drop i = [] := List.drop_eq_nil_of_le (by rw [bytesOf_length]; omega)
    unfold spec_l01Count.l0
    rw [if_neg (by omega), hd]
    simp
  | succ n ih =>
    intro k i a b c d e hi hk ha hb hc hd he
    obtain ⟨k, rfl⟩ : ∃ k', k = k' + 1 := ⟨k - 1, by omega⟩
    have hlt : i < w.size := by omega
    have hdr := drop_bytes w i hlt
    have hmem : bt w (i : Int) ∈ bytesOf w := List.mem_of_mem_drop (by rw [hdr]; exact List.mem_cons_self)
    have hr := hL _ hmem
    have qi : i < 4611686018427387904 := by omega
    have qa : a < 4611686018427387904 := by omega
    have qb : b < 4611686018427387904 := by omega
    have qc : c < 4611686018427387904 := by omega
    have qd : d < 4611686018427387904 := by omega
    have qe : e < 4611686018427387904 := by omega
    have g1 : (i : Int) < (w.size : Int) := by omega
    have g2 : 0 ≤ (i : Int) := Int.natCast_nonneg _
    generalize hB : bt w (i : Int) = B at hr hdr
    have z1 : -9223372036854775808 ≤ B := by omega
    have z2 : B ≤ 9223372036854775807 := by omega
    have hcase : B = 97 ∨ B = 98 ∨ B = 99 ∨ B = 100 ∨ B = 101 := by omega
    unfold spec_l01Count.l0 spec_l01At.f
    simp only [g1, g2, if_true, hB, wrap_id z1 z2, wrap_succ qi, Option.bind_some]
    rw [hdr]
    clear hB hmem hdr g1 g2
    have k0 : ((0 : Nat) : Int) ≤ 5 := by omega
    rcases hcase with rfl | rfl | rfl | rfl | rfl
    · have h := ih k (i + 1) (a + 1) b c d e (by omega) (by omega) (by omega) (by omega) (by omega) (by omega) (by omega)
      rw [show wrap64 (97 - 97) = 0 from wrap_id (by decide) (by decide)]
      simp only [YtippkbjdifmdnaaW.PrintWords.rd, List.getD, List.length_cons, List.length_nil, List.getElem?_cons_zero, Option.getD_some, Int.toNat_zero, List.set_cons_zero, wrap_succ qa]
      rw [if_pos (by decide), if_pos (by decide), h]
      simp
      omega
    · have h := ih k (i + 1) a (b + 1) c d e (by omega) (by omega) (by omega) (by omega) (by omega) (by omega) (by omega)
      rw [show wrap64 (98 - 97) = 1 from wrap_id (by decide) (by decide)]
      simp only [YtippkbjdifmdnaaW.PrintWords.rd, List.getD, List.length_cons, List.length_nil, show (1 : Int).toNat = 0 + 1 from rfl, List.getElem?_cons_succ, List.getElem?_cons_zero, Option.getD_some, List.set_cons_succ, List.set_cons_zero, wrap_succ qb]
      rw [if_pos (by decide), if_pos (by decide), h]
      simp
      omega
    · have h := ih k (i + 1) a b (c + 1) d e (by omega) (by omega) (by omega) (by omega) (by omega) (by omega) (by omega)
      rw [show wrap64 (99 - 97) = 2 from wrap_id (by decide) (by decide)]
      simp only [YtippkbjdifmdnaaW.PrintWords.rd, List.getD, List.length_cons, List.length_nil, show (2 : Int).toNat = 0 + 1 + 1 from rfl, List.getElem?_cons_succ, List.getElem?_cons_zero, Option.getD_some, List.set_cons_succ, List.set_cons_zero, wrap_succ qc]
      rw [if_pos (by decide), if_pos (by decide), h]
      simp
      omega
    · have h := ih k (i + 1) a b c (d + 1) e (by omega) (by omega) (by omega) (by omega) (by omega) (by omega) (by omega)
      rw [show wrap64 (100 - 97) = 3 from wrap_id (by decide) (by decide)]
      simp only [YtippkbjdifmdnaaW.PrintWords.rd, List.getD, List.length_cons, List.length_nil, show (3 : Int).toNat = 0 + 1 + 1 + 1 from rfl, List.getElem?_cons_succ, List.getElem?_cons_zero, Option.getD_some, List.set_cons_succ, List.set_cons_zero, wrap_succ qd]
      rw [if_pos (by decide), if_pos (by decide), h]
      simp
      omega
    · have h := ih k (i + 1) a b c d (e + 1) (by omega) (by omega) (by omega) (by omega) (by omega) (by omega) (by omega)
      rw [show wrap64 (101 - 97) = 4 from wrap_id (by decide) (by decide)]
      simp only [YtippkbjdifmdnaaW.PrintWords.rd, List.getD, List.length_cons, List.length_nil, show (4 : Int).toNat = 0 + 1 + 1 + 1 + 1 from rfl, List.getElem?_cons_succ, List.getElem?_cons_zero, Option.getD_some, List.set_cons_succ, List.set_cons_zero, wrap_succ qe]
      rw [if_pos (by decide), if_pos (by decide), h]
      simp
      omega

/-- The numbers of the letters. -/
def cntv (l : List Int) : List Int := [(l.count 97 : Int), (l.count 98 : Int), (l.count 99 : Int), (l.count 100 : Int), (l.count 101 : Int)]
theorem count_ev (w : ByteArray) (hw : w.size ≤ 1000) (hL : Lets (bytesOf w)) : Ev (fun k => spec_l01Count.f k w) (cntv (bytesOf w)) :=
  ⟨w.size + 1, fun k hk => by
    have h := count_loop w hw hL w.size k 0 0 0 0 0 0 (by omega) (by omega) (by omega) (by omega) (by omega) (by omega) (by omega)
    show spec_l01Count.f k w = _
    unfold spec_l01Count.f
    rw [if_pos (by omega)]
    simpa [cntv, List.replicate] using h⟩

/-! ### writing the letters -/
theorem letter_f (c : Nat) (hc : c < 5) : spec_l01Letter.f (c : Int) = some (strOfNums [((97 + c : Nat) : Int)]) := by
  unfold spec_l01Letter.f
  rw [show wrap64 (97 + (c : Int)) = ((97 + c : Nat) : Int) from wrap_nat (by omega) (by omega), show ((97 + c : Nat) : Int) % 256 = ((97 + c : Nat) : Int) by omega]

theorem l1_ev (v : List Int) (c : Nat) (hc : c < 5) (r : ByteArray) : ∀ (m : Nat) (L : List Int), L.length + m ≤ 100000 →
    Ev (fun k => spec_l07Sorted.l0 k v (strOfNums (L ++ List.replicate m ((97 + c : Nat) : Int))) ((c + 1 : Nat) : Int)) r →
    Ev (fun k => spec_l07Sorted.l1 k v (strOfNums L) (c : Int) (m : Int)) r
  | 0, L, hl, h => by
    have q1 : c < 4611686018427387904 := by omega
    have g1 : ¬ (((0 : Nat) : Int) > 0) := by omega
    refine ev_suc ?_
    unfold spec_l07Sorted.l1
    simp only [g1, if_false, wrap_succ q1]
    simpa using h
  | m + 1, L, hl, h => by
    have g1 : ((m + 1 : Nat) : Int) > 0 := by omega
    have g2 : (strOfNums L).size + (strOfNums [((97 + c : Nat) : Int)]).size ≤ 9223372036854775807 := by rw [snum_size, snum_size]; simp; omega
    have q1 : ((m + 1 : Nat) : Int) - 1 = (m : Int) := by omega
    have q2 : m ≤ 4611686018427387904 := by omega
    have q3 : (L ++ [((97 + c : Nat) : Int)]).length + m ≤ 100000 := by simp; omega
    refine ev_suc ?_
    unfold spec_l07Sorted.l1
    simp only [g1, if_true, letter_f c hc, Option.bind_some, g2, wrap_nat q1 q2, snum_append]
    refine l1_ev v c hc r m (L ++ [((97 + c : Nat) : Int)]) q3 ?_
    rw [List.append_assoc, List.singleton_append, ← List.replicate_succ]
    exact h

theorem l07_ev (a b c d e : Nat) (h : a + b + c + d + e ≤ 10000) : Ev (fun k => spec_l07Sorted.f k [(a : Int), (b : Int), (c : Int), (d : Int), (e : Int)]) (strOfNums (reps a b c d e)) := by
  have e0 : strOfNums [] = (⟨#[]⟩ : ByteArray) := rfl
  unfold spec_l07Sorted.f
  rw [← e0]
  have step : ∀ (x : Nat) (t : Nat) (L : List Int) (r : ByteArray), x < 5 → L.length + t ≤ 100000 → YtippkbjdifmdnaaW.PrintWords.rd [(a : Int), (b : Int), (c : Int), (d : Int), (e : Int)] (x : Int) = (t : Int) →
      Ev (fun k => spec_l07Sorted.l0 k [(a : Int), (b : Int), (c : Int), (d : Int), (e : Int)] (strOfNums (L ++ List.replicate t ((97 + x : Nat) : Int))) ((x + 1 : Nat) : Int)) r →
      Ev (fun k => spec_l07Sorted.l0 k [(a : Int), (b : Int), (c : Int), (d : Int), (e : Int)] (strOfNums L) (x : Int)) r := by
    intro x t L r hx hl hrd h
    have h1 := l1_ev [(a : Int), (b : Int), (c : Int), (d : Int), (e : Int)] x hx r t L hl h
    have g1 : (x : Int) < 5 := by omega
    have g2 : 0 ≤ (x : Int) := Int.natCast_nonneg _
    refine ev_suc ?_
    unfold spec_l07Sorted.l0
    have g3 : (x : Int) < ((0 + 1 + 1 + 1 + 1 + 1 : Nat) : Int) := by omega
    simp only [g1, g2, if_true, List.length_cons, List.length_nil, hrd, g3]
    exact h1
  refine step 0 a [] _ (by omega) (by simp; omega) rfl ?_
  refine step 1 b _ _ (by omega) (by simp; omega) rfl ?_
  refine step 2 c _ _ (by omega) (by simp; omega) rfl ?_
  refine step 3 d _ _ (by omega) (by simp; omega) rfl ?_
  refine step 4 e _ _ (by omega) (by simp; omega) rfl ?_
  refine ev_suc ?_
  unfold spec_l07Sorted.l0
  have g1 : ¬ (((4 + 1 : Nat) : Int) < 5) := by omega
  simp only [g1, if_false]
  refine ev_of ?_
  simp [reps]

theorem sorted_ev (w : ByteArray) (hw : w.size ≤ 1000) (hL : Lets (bytesOf w)) : Ev (fun k => spec_l07Sorted.f k (cntv (bytesOf w))) (ordered w) := by
  have e : ordered w = strOfNums (repL (bytesOf w)) := by unfold ordered; rw [sortB_eq hL]
  rw [e]
  have hn : (bytesOf w).length = w.size := bytesOf_length w
  have h1 := List.count_le_length (a := (97 : Int)) (l := bytesOf w)
  have h2 := List.count_le_length (a := (98 : Int)) (l := bytesOf w)
  have h3 := List.count_le_length (a := (99 : Int)) (l := bytesOf w)
  have h4 := List.count_le_length (a := (100 : Int)) (l := bytesOf w)
  have h5 := List.count_le_length (a := (101 : Int)) (l := bytesOf w)
  exact l07_ev _ _ _ _ _ (by omega)

theorem isW_lets {w : ByteArray} (h : isW w = true) : Lets (bytesOf w) := by
  intro x hx
  unfold isW at h
  simp only [Bool.and_eq_true, List.all_eq_true] at h
  have := h.2 x hx
  unfold isLet at this
  simp only [Bool.and_eq_true, decide_eq_true_eq] at this
  omega

theorem sortedWord_f (w : ByteArray) (hw : w.size ≤ 1000) : impl_sortedWord.f w = some (ordered w) := by
  unfold impl_sortedWord.f
  rw [if_pos (by omega)]

end Go.Proofs.Ytippkbjdifmdnaa.PF
