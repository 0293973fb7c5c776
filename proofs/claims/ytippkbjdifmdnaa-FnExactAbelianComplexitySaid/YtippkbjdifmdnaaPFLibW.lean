/- Plain facts on words: order, sorted lists of words, what the tests of words come to. -/
import Derived.Test.YtippkbjdifmdnaaPFGivB
import Derived.Test.YtippkbjdifmdnaaPFx0
import Derived.Test.YtippkbjdifmdnaaPFx9
import Derived.Test.YtippkbjdifmdnaaPFx10
namespace Go.Proofs.Ytippkbjdifmdnaa.PF
open Go.RowKit Go.Proofs.YtippkbjdifmdnaaW.PrintWords Go.Proofs.YtippkbjdifmdnaaW.PrintLast Go.Proofs.YtippkbjdifmdnaaW.PrintMore
set_option linter.unusedVariables false
set_option linter.unusedSimpArgs false

theorem wrap_id {x : Int} (h0 : -9223372036854775808 ≤ x) (h1 : x ≤ 9223372036854775807) : wrap64 x = x := by
  unfold wrap64; omega

/-! ### order -/
theorem less_iff : ∀ a b : List UInt8, Op.bytesLess a b = true ↔ a < b
  | [], [] => by simp [Op.bytesLess]
  | [], b :: y => by simp [Op.bytesLess]
  | a :: x, [] => by simp [Op.bytesLess]
  | a :: x, b :: y => by
    rw [List.cons_lt_cons_iff, ← less_iff x y]
    simp [Op.bytesLess]

theorem toList_eq (a : ByteArray) : a.toList = a.data.toList := ByteArray.toList_eq a
theorem ba_ext {a b : ByteArray} (h : a.data.toList = b.data.toList) : a = b := ByteArray.ext (Array.toList_inj.1 h)
theorem ba_inj {a b : ByteArray} : a.toList = b.toList ↔ a = b := ⟨fun h => ba_ext (by rw [← toList_eq, ← toList_eq]; exact h), fun h => by rw [h]⟩
theorem ba_mk (a : ByteArray) : (⟨a.data.toList.toArray⟩ : ByteArray) = a := by cases a; simp

/-- Words strictly in order. -/
def SS (l : List ByteArray) : Prop := l.Pairwise fun a b => a.toList < b.toList

theorem SS_uniq : ∀ {l l' : List ByteArray}, SS l → SS l' → (∀ x, x ∈ l ↔ x ∈ l') → l = l'
  | [], [], _, _, _ => rfl
  | [], b :: l', _, _, h => by have := (h b).2 (by simp); simp at this
  | a :: l, [], _, _, h => by have := (h a).1 (by simp); simp at this
  | a :: l, b :: l', h1, h2, h => by
    obtain ⟨h1a, h1b⟩ := List.pairwise_cons.1 h1
    obtain ⟨h2a, h2b⟩ := List.pairwise_cons.1 h2
    have hab : a = b := by
      rcases List.mem_cons.1 ((h a).1 (by simp)) with e | hm
      · exact e
      · rcases List.mem_cons.1 ((h b).2 (by simp)) with e | hm2
        · exact e.symm
        · exact absurd (List.lt_trans (h1a b hm2) (h2a a hm)) (List.lt_irrefl _)
    subst hab
    refine congrArg _ (SS_uniq h1b h2b fun x => ⟨fun hx => ?_, fun hx => ?_⟩)
    · rcases List.mem_cons.1 ((h x).1 (by simp [hx])) with e | hm
      · subst e; exact absurd (h1a x hx) (List.lt_irrefl _)
      · exact hm
    · rcases List.mem_cons.1 ((h x).2 (by simp [hx])) with e | hm
      · subst e; exact absurd (h2a x hx) (List.lt_irrefl _)
      · exact hm

theorem SS_nodup {l : List ByteArray} (h : SS l) : l.Nodup := h.imp fun hab e => by subst e; exact absurd hab (List.lt_irrefl _)

/-! ### sorted lists -/
theorem mem_compact (zs : List (List UInt8)) (y : List UInt8) : y ∈ Lib.compact zs ↔ y ∈ zs := by
  unfold Lib.compact Lib.compactUpTo
  simp only [List.mem_map, List.mem_filter, List.mem_range]
  constructor
  · rintro ⟨j, ⟨hj, _⟩, rfl⟩
    simp [hj]
  · intro hy
    obtain ⟨j, hj, hjy⟩ := List.getElem_of_mem hy
    have key : ∀ n, ∀ j, j ≤ n → (hj : j < zs.length) → zs[j] = y → ∃ a, (a < zs.length ∧ Lib.keeps zs.toArray a = true) ∧ zs.toArray[a]! = y := by
      intro n
      induction n with
      | zero =>
        intro j hn hj hjy
        obtain rfl : j = 0 := by omega
        exact ⟨0, ⟨hj, Lib.keeps_lt_one _ 0 (by omega)⟩, by simp [hj, hjy]⟩
      | succ n ih =>
        intro j hn hj hjy
        by_cases hk : Lib.keeps zs.toArray j = true
        · exact ⟨j, ⟨hj, hk⟩, by simp [hj, hjy]⟩
        · have hj0 : j ≠ 0 := fun e => hk (by rw [e]; exact Lib.keeps_lt_one _ 0 (by omega))
          have he : zs.toArray[j]! = zs.toArray[j - 1]! := by
            by_cases he : zs.toArray[j]! = zs.toArray[j - 1]!
            · exact he
            · exact absurd (Lib.keeps_pos he) hk
          have hj1 : j - 1 < zs.length := by omega
          refine ih (j - 1) (by omega) hj1 ?_
          simp [hj, hj1] at he
          rw [← he]; exact hjy
    exact key j j (Nat.le_refl _) hj hjy

theorem compact_lt {zs : List (List UInt8)} (h : zs.Pairwise (· ≤ ·)) : (Lib.compact zs).Pairwise (· < ·) := by
  unfold Lib.compact Lib.compactUpTo
  rw [List.pairwise_map]
  refine List.Pairwise.imp_of_mem ?_ (List.Pairwise.filter _ List.pairwise_lt_range)
  intro i j hi hj hij
  obtain ⟨hi1, hi2⟩ := List.mem_filter.1 hi
  obtain ⟨hj1, hj2⟩ := List.mem_filter.1 hj
  simp only [List.mem_range] at hi1 hj1
  have hne : zs.toArray[j]! ≠ zs.toArray[j - 1]! := by
    intro e
    rw [Lib.keeps_neg (by omega) e] at hj2
    cases hj2
  have hj3 : j - 1 < zs.length := by omega
  have hle : ∀ a b (ha : a < zs.length) (hb : b < zs.length), a ≤ b → zs[a] ≤ zs[b] := by
    intro a b ha hb hab
    rcases Nat.lt_or_ge a b with hlt | hge
    · exact List.pairwise_iff_getElem.1 h a b ha hb hlt
    · obtain rfl : a = b := by omega
      exact List.le_refl _
  have h1 := hle i (j - 1) hi1 hj3 (by omega)
  have h2 := hle (j - 1) j hj3 hj1 (by omega)
  simp [hi1, hj1, hj3] at hne ⊢
  exact List.lt_of_le_of_lt h1 (Std.lt_of_le_of_ne h2 (fun e => hne e.symm))

/-- The words of a list, in order, each once. -/
def canon (l : List ByteArray) : List ByteArray := (sortedL (l.map fun b => b.data.toList)).map fun x => ⟨x.toArray⟩

theorem canon_SS (l : List ByteArray) : SS (canon l) := by
  unfold SS canon sortedL
  rw [List.pairwise_map]
  have h := List.pairwise_mergeSort (le := fun x y : List UInt8 => decide (x ≤ y)) (fun a b c h1 h2 => by simp only [decide_eq_true_eq] at *; exact List.le_trans h1 h2)
    (fun a b => by rcases List.le_total a b with h | h <;> simp [h]) (l.map fun b => b.data.toList)
  simp only [decide_eq_true_eq] at h
  exact (compact_lt h).imp fun hab => by rw [toList_eq, toList_eq]; exact hab

theorem mem_canon (l : List ByteArray) (x : ByteArray) : x ∈ canon l ↔ x ∈ l := by
  unfold canon sortedL
  simp only [List.mem_map, mem_compact, List.mem_mergeSort]
  constructor
  · rintro ⟨_, ⟨a, ha, rfl⟩, rfl⟩; rw [ba_mk]; exact ha
  · intro hx; exact ⟨_, ⟨x, hx, rfl⟩, ba_mk x⟩

theorem canon_eq {l r : List ByteArray} (h : SS r) (hm : ∀ x, x ∈ r ↔ x ∈ l) : r = canon l := SS_uniq h (canon_SS l) fun x => by rw [hm, mem_canon]

theorem canon_length_le (l : List ByteArray) : (canon l).length ≤ l.length := by
  unfold canon sortedL
  rw [List.length_map]
  have := Lib.compact_length_le ((l.map fun b => b.data.toList).mergeSort fun x y => decide (x ≤ y))
  rw [List.length_mergeSort, List.length_map] at this
  exact this

theorem sorted_f {l : List ByteArray} (h : l.length < 4611686018427387904) : impl_sorted.f l = some (canon l) := by
  unfold impl_sorted.f; rw [if_pos h]; rfl

/-! ### tests of words -/
theorem drop_bytes (a : ByteArray) (i : Nat) (h : i < a.size) : (bytesOf a).drop i = bt a (i : Int) :: (bytesOf a).drop (i + 1) := by
  rw [rd_drop _ i (by rw [bytesOf_length]; exact h), rd_bytesOf]

theorem is_loop (a : ByteArray) (ha : a.size ≤ 9000000000000000000) : ∀ (d k i : Nat), i + d = a.size → d < k → spec_l01Is.l0 k a (i : Int) = some (decide (a.size ≤ 60) && ((bytesOf a).drop i).all isLet) := by
  intro d
  induction d with
  | zero =>
    intro k i hd hk
    obtain ⟨k, rfl⟩ : ∃ m, k = m + 1 := ⟨k - 1, by omega⟩
    simp only [spec_l01Is.l0]
    rw [if_neg (by omega), List.drop_eq_nil_of_le (by rw [bytesOf_length]; omega)]
    simp
    omega
  | succ d ih =>
    intro k i hd hk
    obtain ⟨k, rfl⟩ : ∃ m, k = m + 1 := ⟨k - 1, by omega⟩
    simp only [spec_l01Is.l0]
    rw [if_pos (by omega), if_pos (by omega), drop_bytes a i (by omega)]
    simp only [List.all_cons, isLet]
    by_cases h1 : bt a (i : Int) < 97
    · rw [if_pos h1, decide_eq_false (by omega : ¬ 97 ≤ bt a (i : Int))]; simp
    · rw [if_neg h1]
      by_cases h2 : bt a (i : Int) > 101
      · rw [if_pos h2, decide_eq_false (by omega : ¬ bt a (i : Int) < 102)]; simp
      · rw [if_neg h2, decide_eq_true (by omega : 97 ≤ bt a (i : Int)), decide_eq_true (by omega : bt a (i : Int) < 102), wrap_id (by omega) (by omega)]
        rw [show (i : Int) + 1 = ((i + 1 : Nat) : Int) from rfl, ih k (i + 1) (by omega) (by omega)]
        simp [isLet]

theorem l01Is_ev (a : ByteArray) (ha : a.size ≤ 9000000000000000000) : Ev (fun k => spec_l01Is.f k a) (isW a) :=
  ⟨a.size + 1, fun k hk => by
    have h := is_loop a ha a.size k 0 (by omega) (by omega)
    exact h⟩

theorem isW_size {a : ByteArray} (h : isW a = true) : a.size ≤ 60 := by
  simp only [isW, Bool.and_eq_true, decide_eq_true_eq] at h; exact h.1

/-- The code of words with a range. -/
def codeW (b : Bool) (l : List ByteArray) : Int := if l.all isW = true then (if b = true then 0 else 2) else 1
theorem wordCode_f (k : Nat) (b : Bool) (l : List ByteArray) : impl_wordCode.f k (some b) l = some (codeW b l) := by
  unfold impl_wordCode.f codeW
  split
  · simp only [Option.bind_some]; split <;> rfl
  · rfl

end Go.Proofs.Ytippkbjdifmdnaa.PF

namespace Go.Proofs.Ytippkbjdifmdnaa.PF
open Go.RowKit Go.Proofs.YtippkbjdifmdnaaW.PrintWords Go.Proofs.YtippkbjdifmdnaaW.PrintLast Go.Proofs.YtippkbjdifmdnaaW.PrintMore
set_option linter.unusedVariables false
set_option linter.unusedSimpArgs false

theorem ev_bnd {α β : Type} {g : Nat → Option α} {f : Nat → α → Option β} {a : α} {r : β} (h1 : Ev g a) (h2 : Ev (fun k => f k a) r) : Ev (fun k => (g k).bind (f k)) r := by
  obtain ⟨K1, h1⟩ := h1
  obtain ⟨K2, h2⟩ := h2
  exact ⟨K1 + K2, fun k hk => by show (g k).bind (f k) = some r; rw [h1 k (by omega)]; exact h2 k (by omega)⟩
theorem ev_of {α : Type} {c : Option α} {r : α} (h : c = some r) : Ev (fun _ => c) r := ⟨0, fun _ _ => h⟩
theorem ev_suc {α : Type} {g : Nat → Option α} {r : α} (h : Ev (fun k => g (k + 1)) r) : Ev g r := by
  obtain ⟨K, h⟩ := h
  exact ⟨K + 1, fun k hk => by obtain ⟨k, rfl⟩ : ∃ n, k = n + 1 := ⟨k - 1, by omega⟩; exact h k (by omega)⟩
theorem ev_get {α : Type} {g : Nat → Option α} {r : α} (h : Ev g r) : ∃ k, g k = some r := by obtain ⟨K, h⟩ := h; exact ⟨K, h K (Nat.le_refl _)⟩
theorem ev_congr {α : Type} {g : Nat → Option α} {r r' : α} (h : Ev g r) (e : r = r') : Ev g r' := e ▸ h

theorem bne_false {α : Type} [BEq α] [ReflBEq α] (a : α) : (a != a) = false := by simp [bne]

theorem wrap_nat {x : Int} {n : Nat} (h : x = n) (hn : n ≤ 4611686018427387904) : wrap64 x = (n : Int) := by rw [h, wrap_id (by omega) (by omega)]
theorem wrap_succ {i : Nat} (hn : i < 4611686018427387904) : wrap64 ((i : Int) + 1) = ((i + 1 : Nat) : Int) := wrap_nat (n := i + 1) (by omega) (by omega)
theorem rd_nat (l : List Int) (i : Nat) (h : i < l.length) : rd l (i : Int) = l[i] := by simp [rd, h]
theorem rdOf_nat {α : Type} (d : α) (l : List α) (i : Nat) (h : i < l.length) : rdOf d l (i : Int) = l[i] := by simp [rdOf, h]

end Go.Proofs.Ytippkbjdifmdnaa.PF

namespace Go.Proofs.Ytippkbjdifmdnaa.PF
open Go.RowKit Go.Proofs.YtippkbjdifmdnaaW.PrintWords Go.Proofs.YtippkbjdifmdnaaW.PrintLast Go.Proofs.YtippkbjdifmdnaaW.PrintMore
set_option linter.unusedVariables false
set_option linter.unusedSimpArgs false

theorem eqI_loop (l : List Int) (hl : l.length ≤ 4000000000000) : ∀ (d k i : Nat), i + d = l.length → d < k → laws_eqInt64S.l0 k l l (i : Int) = some true := by
  intro d
  induction d with
  | zero =>
    intro k i hd hk
    obtain ⟨k, rfl⟩ : ∃ m, k = m + 1 := ⟨k - 1, by omega⟩
    simp only [laws_eqInt64S.l0]; rw [if_neg (by omega)]
  | succ d ih =>
    intro k i hd hk
    obtain ⟨k, rfl⟩ : ∃ m, k = m + 1 := ⟨k - 1, by omega⟩
    simp only [laws_eqInt64S.l0]
    rw [if_pos (by omega), if_pos (by omega), if_pos (by omega), if_pos trivial, wrap_succ (by omega), ih k (i + 1) (by omega) (by omega)]

theorem eqI_ev (l : List Int) (hl : l.length ≤ 4000000000000) : Ev (fun k => laws_eqInt64S.f k l l) true :=
  ⟨l.length + 1, fun k hk => by
    have h := eqI_loop l hl l.length k 0 (by omega) (by omega)
    simp only [laws_eqInt64S.f, if_true]; exact h⟩

theorem markI_loop : ∀ (d k i : Nat) (l : List Int), i + d = l.length → l.length ≤ 4000000000000 → d < k → (∀ j, j < i → rd l (j : Int) = (j : Int) + 1) →
    ∃ r, (∀ k, d < k → laws_markInt64S.l0 k l ((i : Int) + 1) (i : Int) = some ((l.length : Int) + 1, r)) ∧ r.length = l.length ∧ (∀ j, j < l.length → rd r (j : Int) = (j : Int) + 1) := by
  intro d
  induction d with
  | zero =>
    intro k i l hd hl hk hj
    refine ⟨l, fun k hk => ?_, rfl, fun j h => hj j (by omega)⟩
    obtain ⟨k, rfl⟩ : ∃ m, k = m + 1 := ⟨k - 1, by omega⟩
    simp only [laws_markInt64S.l0]; rw [if_neg (by omega), show i = l.length by omega]
  | succ d ih =>
    intro k i l hd hl hk hj
    obtain ⟨r, h1, h2, h3⟩ := ih (d + 1) (i + 1) (l.set i ((i : Int) + 1)) (by rw [List.length_set]; omega) (by rw [List.length_set]; exact hl) (by omega) (fun j h => by
      rw [rd_nat _ _ (by rw [List.length_set]; omega), List.getElem_set]
      by_cases e : i = j
      · rw [if_pos e, e]
      · rw [if_neg e, ← rd_nat _ _ (by omega)]; exact hj j (by omega))
    rw [List.length_set] at h1 h2 h3
    refine ⟨r, fun k hk => ?_, h2, h3⟩
    obtain ⟨k, rfl⟩ : ∃ m, k = m + 1 := ⟨k - 1, by omega⟩
    simp only [laws_markInt64S.l0]
    rw [if_pos (by omega), if_pos (by omega), wrap_succ (i := i) (by omega), show wrap64 ((i : Int) + 1 + 1) = ((i + 1 : Nat) : Int) + 1 by rw [wrap_id (by omega) (by omega)]; omega]
    rw [Int.toNat_natCast, ← h1 k (by omega)]

theorem heldI_loop (r : List Int) (hl : r.length ≤ 4000000000000) (h : ∀ j, j < r.length → rd r (j : Int) = (j : Int) + 1) : ∀ (d k i : Nat), i + d = r.length → d < k → laws_heldInt64S.l0 k r ((i : Int) + 1) (i : Int) = some ((r.length : Int) + 1) := by
  intro d
  induction d with
  | zero =>
    intro k i hd hk
    obtain ⟨k, rfl⟩ : ∃ m, k = m + 1 := ⟨k - 1, by omega⟩
    simp only [laws_heldInt64S.l0]; rw [if_neg (by omega), show i = r.length by omega]
  | succ d ih =>
    intro k i hd hk
    obtain ⟨k, rfl⟩ : ∃ m, k = m + 1 := ⟨k - 1, by omega⟩
    simp only [laws_heldInt64S.l0]
    rw [if_pos (by omega), if_pos (by omega), if_pos (h i (by omega)), wrap_succ (i := i) (by omega), show wrap64 ((i : Int) + 1 + 1) = ((i + 1 : Nat) : Int) + 1 by rw [wrap_id (by omega) (by omega)]; omega]
    exact ih k (i + 1) (by omega) (by omega)

/-- A marked list is held, as long as nothing writes it. -/
theorem markI_ev (l : List Int) (hl : l.length ≤ 4000000000000) : ∃ r, Ev (fun k => laws_markInt64S.f k l 1) ((l.length : Int) + 1, r) ∧ Ev (fun k => laws_heldInt64S.f k r 1) ((l.length : Int) + 1) := by
  obtain ⟨r, h1, h2, h3⟩ := markI_loop l.length (l.length + 1) 0 l (by omega) hl (by omega) (fun j h => by omega)
  refine ⟨r, ⟨l.length + 1, fun k hk => ?_⟩, ⟨l.length + 1, fun k hk => ?_⟩⟩
  · have := h1 k (by omega)
    unfold laws_markInt64S.f; exact this
  · have := heldI_loop r (by omega) (fun j h => h3 j (by omega)) r.length k 0 (by omega) (by omega)
    rw [h2] at this
    unfold laws_heldInt64S.f; exact this

end Go.Proofs.Ytippkbjdifmdnaa.PF

namespace Go.Proofs.Ytippkbjdifmdnaa.PF
open Go.RowKit Go.Proofs.YtippkbjdifmdnaaW.PrintWords Go.Proofs.YtippkbjdifmdnaaW.PrintLast Go.Proofs.YtippkbjdifmdnaaW.PrintMore
set_option linter.unusedVariables false
set_option linter.unusedSimpArgs false

theorem rdOf_get {α : Type} (d : α) (l : List α) (i : Nat) (h : i < l.length) : rdOf d l (i : Int) = l[i] := by
  simp [rdOf, h]

/-- The reference's insertion: from place n down; what lies from n on is greater. -/
theorem put_loop (l : List ByteArray) (x : ByteArray) (hS : SS l) (hl : l.length < 4000000000000) : ∀ (n k : Nat), n ≤ l.length → n < k → (∀ j (hj : j < l.length), n ≤ j → x.toList < l[j].toList) →
    ∃ r, spec_l01Put.l0 k l x (n : Int) = some r ∧ SS r ∧ (∀ y, y ∈ r ↔ y ∈ l ∨ y = x) := by
  intro n
  induction n with
  | zero =>
    intro k hn hk hgt
    obtain ⟨k, rfl⟩ : ∃ m, k = m + 1 := ⟨k - 1, by omega⟩
    refine ⟨x :: l, ?_, ?_, ?_⟩
    · simp only [spec_l01Put.l0]
      rw [if_neg (by omega)]
      try simp only [Option.bind_some]
      rw [if_pos (by omega), if_pos (by omega)]
      simp only [Int.toNat_natCast, List.take_zero, List.drop_zero, List.nil_append, List.length_nil, List.length_singleton]
      rw [if_pos (by omega)]
      try simp only [Option.bind_some]
      rw [if_pos (by omega)]
      simp only [Option.bind_some, List.singleton_append]
      rw [if_pos (by first | omega | (simp; omega))]
    · refine List.pairwise_cons.2 ⟨fun y hy => ?_, hS⟩
      obtain ⟨j, hj, rfl⟩ := List.getElem_of_mem hy
      exact hgt j hj (by omega)
    · intro y; simp [or_comm]
  | succ n ih =>
    intro k hn hk hgt
    obtain ⟨k, rfl⟩ : ∃ m, k = m + 1 := ⟨k - 1, by omega⟩
    have hw : wrap64 (((n + 1 : Nat) : Int) - 1) = (n : Int) := by rw [wrap_id (by omega) (by omega)]; omega
    simp only [spec_l01Put.l0, hw]
    rw [if_pos (by omega), if_pos (by omega), if_pos (by omega), rdOf_get _ _ n (by omega)]
    by_cases h1 : Op.bytesLess x.toList l[n].toList = true
    · rw [if_pos h1]
      refine ih k (by omega) (by omega) ?_
      intro j hj hnj
      by_cases e : j = n
      · subst e; exact (less_iff _ _).1 h1
      · exact hgt j hj (by omega)
    · rw [if_neg h1]
      by_cases h2 : l[n].toList = x.toList
      · rw [if_pos h2]
        have hx := ba_inj.1 h2
        exact ⟨l, rfl, hS, fun y => ⟨.inl, fun h => h.elim id (fun e => by rw [e, ← hx]; exact List.getElem_mem _)⟩⟩
      · rw [if_neg h2]
        have hlt : l[n].toList < x.toList := by
          have : ¬ x.toList < l[n].toList := fun h => h1 ((less_iff _ _).2 h)
          exact Std.lt_of_le_of_ne this h2
        refine ⟨l.take (n + 1) ++ [x] ++ l.drop (n + 1), ?_, ?_, ?_⟩
        · simp only [Option.bind_some]
          rw [if_pos (by omega), if_pos (by omega)]
          simp only [Int.toNat_natCast, List.nil_append, List.length_nil, Nat.zero_add]
          rw [if_pos (by rw [List.length_take]; omega)]
          try simp only [Option.bind_some]
          rw [if_pos (by rw [List.length_take]; omega)]
          try simp only [Option.bind_some]
          rw [if_pos (by simp only [List.length_append, List.length_take, List.length_singleton, List.length_drop]; omega)]
        · have htd : SS (l.take (n + 1) ++ l.drop (n + 1)) := by rw [List.take_append_drop]; exact hS
          obtain ⟨p1, p2, p3⟩ := List.pairwise_append.1 htd
          unfold SS
          rw [List.append_assoc]
          refine List.pairwise_append.2 ⟨p1, ?_, ?_⟩
          · rw [List.singleton_append]
            refine List.pairwise_cons.2 ⟨fun y hy => ?_, p2⟩
            obtain ⟨j, hj, rfl⟩ := List.getElem_of_mem hy
            rw [List.getElem_drop]
            rw [List.length_drop] at hj
            exact hgt (n + 1 + j) (by omega) (by omega)
          · intro a ha b hb
            have hax : a.toList < x.toList := by
              obtain ⟨j, hj, rfl⟩ := List.getElem_of_mem ha
              rw [List.length_take] at hj
              rw [List.getElem_take]
              by_cases e : j = n
              · subst e; exact hlt
              · exact List.lt_trans (List.pairwise_iff_getElem.1 hS j n (by omega) (by omega) (by omega)) hlt
            rcases List.mem_append.1 hb with hb | hb
            · obtain rfl := List.mem_singleton.1 hb; exact hax
            · exact p3 a ha b hb
        · intro y
          have : y ∈ l ↔ y ∈ l.take (n + 1) ∨ y ∈ l.drop (n + 1) := by rw [← List.mem_append, List.take_append_drop]
          rw [this]
          simp only [List.mem_append, List.mem_singleton]
          constructor
          · rintro ((h | h) | h)
            · exact .inl (.inl h)
            · exact .inr h
            · exact .inl (.inr h)
          · rintro ((h | h) | h)
            · exact .inl (.inl h)
            · exact .inr h
            · exact .inl (.inr h)

theorem put_ev (l : List ByteArray) (x : ByteArray) (hl : l.length < 4000000000000) : ∀ k, l.length < k → spec_l01Put.f k (canon l) x = some (canon (l ++ [x])) := by
  intro k hk
  have hle := canon_length_le l
  obtain ⟨r, h1, h2, h3⟩ := put_loop (canon l) x (canon_SS l) (by omega) (canon l).length k (Nat.le_refl _) (by omega) (fun j hj hn => by omega)
  unfold spec_l01Put.f
  rw [h1, canon_eq h2 (l := l ++ [x]) (fun y => by rw [h3, mem_canon]; simp)]

/-- The factors of a length, place by place, from place i on. -/
def fcsFrom (w : ByteArray) (m : Nat) : Nat → Nat → List ByteArray
  | 0, _ => []
  | d + 1, i => w.extract i (i + m) :: fcsFrom w m d (i + 1)
/-- How many places a factor of a length has. -/
def plc (w : ByteArray) (m : Nat) : Nat := w.size + 1 - m
def fcs (w : ByteArray) (m : Nat) : List ByteArray := fcsFrom w m (plc w m) 0
/-- The different factors of a length, in order. -/
def fac (w : ByteArray) (m : Nat) : List ByteArray := canon (fcs w m)

theorem fcsFrom_length (w : ByteArray) (m : Nat) : ∀ d i, (fcsFrom w m d i).length = d
  | 0, _ => rfl
  | d + 1, i => by rw [fcsFrom, List.length_cons, fcsFrom_length w m d]

theorem mem_fcsFrom (w : ByteArray) (m : Nat) (x : ByteArray) : ∀ d i, x ∈ fcsFrom w m d i ↔ ∃ j, i ≤ j ∧ j < i + d ∧ x = w.extract j (j + m)
  | 0, i => by simp [fcsFrom]; intro j h1 h2; omega
  | d + 1, i => by
    rw [fcsFrom, List.mem_cons, mem_fcsFrom w m x d (i + 1)]
    constructor
    · rintro (h | ⟨j, h1, h2, h3⟩)
      · exact ⟨i, by omega, by omega, h⟩
      · exact ⟨j, by omega, by omega, h3⟩
    · rintro ⟨j, h1, h2, h3⟩
      by_cases e : j = i
      · subst e; exact .inl h3
      · exact .inr ⟨j, by omega, by omega, h3⟩

theorem mem_fac (w : ByteArray) (m : Nat) (x : ByteArray) : x ∈ fac w m ↔ ∃ j, j + m ≤ w.size ∧ x = w.extract j (j + m) := by
  unfold fac fcs plc
  rw [mem_canon, mem_fcsFrom]
  constructor
  · rintro ⟨j, _, h2, h3⟩; exact ⟨j, by omega, h3⟩
  · rintro ⟨j, h2, h3⟩; exact ⟨j, by omega, by omega, h3⟩

theorem fac_SS (w : ByteArray) (m : Nat) : SS (fac w m) := canon_SS _
theorem fac_length_le (w : ByteArray) (m : Nat) : (fac w m).length ≤ w.size + 1 - m := by
  have := canon_length_le (fcs w m); unfold fcs at this; rw [fcsFrom_length] at this; exact this

theorem extract_size (w : ByteArray) {i j : Nat} (h1 : i ≤ j) (h2 : j ≤ w.size) : (w.extract i j).size = j - i := by
  rw [ByteArray.size_extract]; omega

theorem impl_factors_loop (w : ByteArray) (m : Nat) (hw : w.size ≤ 1000000) (hm : m ≤ 1000000) : ∀ (d k i : Nat) (acc : List ByteArray), i + d = plc w m → acc.length = i → d < k →
    impl_factors.l0 k w (m : Int) acc (i : Int) = some (canon (acc ++ fcsFrom w m d i)) := by
  intro d
  induction d with
  | zero =>
    intro k i acc hd ha hk
    obtain ⟨k, rfl⟩ : ∃ n, k = n + 1 := ⟨k - 1, by omega⟩
    unfold plc at hd
    simp only [impl_factors.l0]
    rw [wrap_id (by omega) (by omega), if_neg (by omega), sorted_f (by omega)]
    simp [fcsFrom]
  | succ d ih =>
    intro k i acc hd ha hk
    obtain ⟨k, rfl⟩ : ∃ n, k = n + 1 := ⟨k - 1, by omega⟩
    have hd' := hd
    unfold plc at hd'
    simp only [impl_factors.l0]
    rw [wrap_id (x := (i : Int) + m) (by omega) (by omega), if_pos (by omega), if_pos (by omega), if_pos (by omega), if_pos (by omega), wrap_id (x := (i : Int) + 1) (by omega) (by omega)]
    rw [show (i : Int) + 1 = ((i + 1 : Nat) : Int) from rfl, ih k (i + 1) _ (by omega) (by simp [ha]) (by omega)]
    rw [show ((i : Int) + (m : Int)).toNat = i + m by omega, Int.toNat_natCast]
    simp [fcsFrom]

theorem impl_factors_ev (w : ByteArray) (m : Nat) (hw : w.size ≤ 1000000) (hm : m ≤ 1000000) : Ev (fun k => impl_factors.f k w (m : Int)) (fac w m) :=
  ⟨w.size + 2, fun k hk => by
    have h := impl_factors_loop w m hw hm (plc w m) k 0 [] (by omega) rfl (by unfold plc; omega)
    exact h⟩

theorem canon_nil : canon [] = [] := List.eq_nil_iff_forall_not_mem.2 fun x hx => by rw [mem_canon] at hx; cases hx

end Go.Proofs.Ytippkbjdifmdnaa.PF
