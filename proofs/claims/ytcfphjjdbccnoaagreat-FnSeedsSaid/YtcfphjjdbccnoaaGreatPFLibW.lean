/- Plain facts on words: order, sorted lists of words, what the tests of words come to. -/
import Derived.Test.YtcfphjjdbccnoaaGreatPFGivB
import Derived.Test.YtcfphjjdbccnoaaGreatPFx1
namespace Go.Proofs.YtcfphjjdbccnoaaGreat.PF
open Go.RowKit Go.Proofs.YtcfphjjdbccnoaaGreatW.PrintWords Go.Proofs.YtcfphjjdbccnoaaGreatW.PrintLast Go.Proofs.YtcfphjjdbccnoaaGreatW.PrintMore
set_option linter.unusedVariables false
set_option linter.unusedSimpArgs false

theorem wrap_id {x : Int} (h0 : -9223372036854775808 ≤ x) (h1 : x ≤ 9223372036854775807) : wrap64 x = x := by
 unfold wrap64; omega

/-! ### order -/
theorem less_iff : ∀ a b : List UInt8, Op.bytesLess a b = true ↔ a < b
 | [], [] => by simp [Op.bytesLess]
 | [], b :: y => by simp [Op.bytesLess]
 | a :: x, [] => by simp [Op.bytesLess]
 | a :: x, b :: y => by
  rw [List.cons_lt_cons_iff, ← less_iff x y]
  simp [Op.bytesLess]

theorem toList_eq (a : ByteArray) : a.toList = a.data.toList := ByteArray.toList_eq a
theorem ba_ext {a b : ByteArray} (h : a.data.toList = b.data.toList) : a = b := ByteArray.ext (Array.toList_inj.1 h)
theorem ba_inj {a b : ByteArray} : a.toList = b.toList ↔ a = b := ⟨fun h => ba_ext (by rw [← toList_eq, ← toList_eq]; exact h), fun h => by rw [h]⟩
theorem ba_mk (a : ByteArray) : (⟨a.data.toList.toArray⟩ : ByteArray) = a := by cases a; simp

/-- Words strictly in order. -/
def SS (l : List ByteArray) : Prop := l.Pairwise fun a b => a.toList < b.toList

theorem SS_uniq : ∀ {l l' : List ByteArray}, SS l → SS l' → (∀ x, x ∈ l ↔ x ∈ l') → l = l'
 | [], [], _, _, _ => rfl
 | [], b :: l', _, _, h => by have := (h b).2 (by simp); simp at this
 | a :: l, [], _, _, h => by have := (h a).1 (by simp); simp at this
 | a :: l, b :: l', h1, h2, h => by
  obtain ⟨h1a, h1b⟩ := List.pairwise_cons.1 h1
  obtain ⟨h2a, h2b⟩ := List.pairwise_cons.1 h2
  have hab : a = b := by
   rcases List.mem_cons.1 ((h a).1 (by simp)) with e | hm
   ·
    exact e
   ·
    rcases List.mem_cons.1 ((h b).2 (by simp)) with e | hm2
    ·
     exact e.symm
    ·
     exact absurd (List.lt_trans (h1a b hm2) (h2a a hm)) (List.lt_irrefl _)
  subst hab
  refine congrArg _ (SS_uniq h1b h2b fun x => ⟨fun hx => ?_, fun hx => ?_⟩)
  ·
   rcases List.mem_cons.1 ((h x).1 (by simp [hx])) with e | hm
   ·
    subst e; exact absurd (h1a x hx) (List.lt_irrefl _)
   ·
    exact hm
  ·
   rcases List.mem_cons.1 ((h x).2 (by simp [hx])) with e | hm
   ·
    subst e; exact absurd (h2a x hx) (List.lt_irrefl _)
   ·
    exact hm

theorem SS_nodup {l : List ByteArray} (h : SS l) : l.Nodup := h.imp fun hab e => by subst e; exact absurd hab (List.lt_irrefl _)

/-! ### sorted lists -/
theorem mem_compact (zs : List (List UInt8)) (y : List UInt8) : y ∈ Lib.compact zs ↔ y ∈ zs := by
 unfold Lib.compact Lib.compactUpTo
 simp only [List.mem_map, List.mem_filter, List.mem_range]
 constructor
 ·
  rintro ⟨j, ⟨hj, _⟩, rfl⟩
  simp [hj]
 ·
  intro hy
  obtain ⟨j, hj, hjy⟩ := List.getElem_of_mem hy
  have key : ∀ n, ∀ j, j ≤ n → (hj : j < zs.length) → zs[j] = y → ∃ a, (a < zs.length ∧ Lib.keeps zs.toArray a = true) ∧ zs.toArray[a]! = y := by
   intro n
   induction n with
   | zero =>
    intro j hn hj hjy
    obtain rfl : j = 0 := by omega
    exact ⟨0, ⟨hj, Lib.keeps_lt_one _ 0 (by omega)⟩, by simp [hj, hjy]⟩
   | succ n ih =>
    intro j hn hj hjy
    by_cases hk : Lib.keeps zs.toArray j = true
    ·
     exact ⟨j, ⟨hj, hk⟩, by simp [hj, hjy]⟩
    ·
     have hj0 : j ≠ 0 := fun e => hk (by rw [e]; exact Lib.keeps_lt_one _ 0 (by omega))
     have he : zs.toArray[j]! = zs.toArray[j - 1]! := by
      by_cases he : zs.toArray[j]! = zs.toArray[j - 1]!
      ·
       exact he
      ·
       exact absurd (Lib.keeps_pos he) hk
     have hj1 : j - 1 < zs.length := by omega
     refine ih (j - 1) (by omega) hj1 ?_
     simp [hj, hj1] at he
     rw [← he]; exact hjy
  exact key j j (Nat.le_refl _) hj hjy

theorem compact_lt {zs : List (List UInt8)} (h : zs.Pairwise (· ≤ ·)) : (Lib.compact zs).Pairwise (· < ·) := by
 unfold Lib.compact Lib.compactUpTo
 rw [List.pairwise_map]
 refine List.Pairwise.imp_of_mem ?_ (List.Pairwise.filter _ List.pairwise_lt_range)
 intro i j hi hj hij
 obtain ⟨hi1, hi2⟩ := List.mem_filter.1 hi
 obtain ⟨hj1, hj2⟩ := List.mem_filter.1 hj
 simp only [List.mem_range] at hi1 hj1
 have hne : zs.toArray[j]! ≠ zs.toArray[j - 1]! := by
  intro e
  rw [Lib.keeps_neg (by omega) e] at hj2
  cases hj2
 have hj3 : j - 1 < zs.length := by omega
 have hle : ∀ a b (ha : a < zs.length) (hb : b < zs.length), a ≤ b → zs[a] ≤ zs[b] := by
  intro a b ha hb hab
  rcases Nat.lt_or_ge a b with hlt | hge
  ·
   exact List.pairwise_iff_getElem.1 h a b ha hb hlt
  ·
   obtain rfl : a = b := by omega
   exact List.le_refl _
 have h1 := hle i (j - 1) hi1 hj3 (by omega)
 have h2 := hle (j - 1) j hj3 hj1 (by omega)
 simp [hi1, hj1, hj3] at hne ⊢
 exact List.lt_of_le_of_lt h1 (Std.lt_of_le_of_ne h2 (fun e => hne e.symm))

/-- The words of a list, in order, each once. -/
def canon (l : List ByteArray) : List ByteArray := (sortedL (l.map fun b => b.data.toList)).map fun x => ⟨x.toArray⟩

theorem canon_SS (l : List ByteArray) : SS (canon l) := by
 unfold SS canon sortedL
 rw [List.pairwise_map]
 have h := List.pairwise_mergeSort (le := fun x y : List UInt8 => decide (x ≤ y)) (fun a b c h1 h2 => by simp only [decide_eq_true_eq] at *; exact List.le_trans h1 h2)
  (fun a b => by rcases List.le_total a b with h | h <;> simp [h]) (l.map fun b => b.data.toList)
 simp only [decide_eq_true_eq] at h
 exact (compact_lt h).imp fun hab => by rw [toList_eq, toList_eq]; exact hab

theorem mem_canon (l : List ByteArray) (x : ByteArray) : x ∈ canon l ↔ x ∈ l := by
 unfold canon sortedL
 simp only [List.mem_map, mem_compact, List.mem_mergeSort]
 constructor
 ·
  rintro ⟨_, ⟨a, ha, rfl⟩, rfl⟩; rw [ba_mk]; exact ha
 ·
  intro hx; exact ⟨_, ⟨x, hx, rfl⟩, ba_mk x⟩

theorem canon_eq {l r : List ByteArray} (h : SS r) (hm : ∀ x, x ∈ r ↔ x ∈ l) : r = canon l := SS_uniq h (canon_SS l) fun x => by rw [hm, mem_canon]

theorem canon_length_le (l : List ByteArray) : (canon l).length ≤ l.length := by
 unfold canon sortedL
 rw [List.length_map]
 have := Lib.compact_length_le ((l.map fun b => b.data.toList).mergeSort fun x y => decide (x ≤ y))
 rw [List.length_mergeSort, List.length_map] at this
 exact this

theorem sorted_f {l : List ByteArray} (h : l.length < 4611686018427387904) : impl_sorted.f l = some (canon l) := by
 unfold impl_sorted.f; rw [if_pos h]; rfl

/-! ### tests of words -/
theorem drop_bytes (a : ByteArray) (i : Nat) (h : i < a.size) : (bytesOf a).drop i = bt a (i : Int) :: (bytesOf a).drop (i + 1) := by
 rw [rd_drop _ i (by rw [bytesOf_length]; exact h), rd_bytesOf]

theorem is_loop (a : ByteArray) (ha : a.size ≤ 9000000000000000000) : ∀ (d k i : Nat), i + d = a.size → d < k → spec_l01Is.l0 k a (i : Int) = some (decide (a.size ≤ 60) && ((bytesOf a).drop i).all isLet) := by
 intro d
 induction d with
 | zero =>
  intro k i hd hk
  obtain ⟨k, rfl⟩ : ∃ m, k = m + 1 := ⟨k - 1, by omega⟩
  simp only [spec_l01Is.l0]
  rw [if_neg (by omega), List.drop_eq_nil_of_le (by rw [bytesOf_length]; omega)]
  simp
  omega
 | succ d ih =>
  intro k i hd hk
  obtain ⟨k, rfl⟩ : ∃ m, k = m + 1 := ⟨k - 1, by omega⟩
  simp only [spec_l01Is.l0]
  rw [if_pos (by omega), if_pos (by omega), drop_bytes a i (by omega)]
  simp only [List.all_cons, isLet]
  by_cases h1 : bt a (i : Int) < 97
  ·
   rw [if_pos h1, decide_eq_false (by omega : ¬ 97 ≤ bt a (i : Int))]; simp
  ·
   rw [if_neg h1]
   by_cases h2 : bt a (i : Int) > 101
   ·
    rw [if_pos h2, decide_eq_false (by omega : ¬ bt a (i : Int) < 102)]; simp
   ·
    rw [if_neg h2, decide_eq_true (by omega : 97 ≤ bt a (i : Int)), decide_eq_true (by omega : bt a (i : Int) < 102), wrap_id (by omega) (by omega)]
    rw [show (i : Int) + 1 = ((i + 1 : Nat) : Int) from rfl, ih k (i + 1) (by omega) (by omega)]
    simp [isLet]

theorem l01Is_ev (a : ByteArray) (ha : a.size ≤ 9000000000000000000) : Ev (fun k => spec_l01Is.f k a) (isW a) :=
 ⟨a.size + 1, fun k hk => by
  have h := is_loop a ha a.size k 0 (by omega) (by omega)
  exact h⟩

theorem isW_size {a : ByteArray} (h : isW a = true) : a.size ≤ 60 := by
 simp only [isW, Bool.and_eq_true, decide_eq_true_eq] at h; exact h.1

/-- The code of words with a range. -/
def codeW (b : Bool) (l : List ByteArray) : Int := if l.all isW = true then (if b = true then 0 else 2) else 1
theorem wordCode_f (k : Nat) (b : Bool) (l : List ByteArray) : impl_wordCode.f k (some b) l = some (codeW b l) := by
 unfold impl_wordCode.f codeW
 split
 ·
  simp only [Option.bind_some]; split <;> rfl
 ·
  rfl

end Go.Proofs.YtcfphjjdbccnoaaGreat.PF

namespace Go.Proofs.YtcfphjjdbccnoaaGreat.PF
open Go.RowKit Go.Proofs.YtcfphjjdbccnoaaGreatW.PrintWords Go.Proofs.YtcfphjjdbccnoaaGreatW.PrintLast Go.Proofs.YtcfphjjdbccnoaaGreatW.PrintMore
set_option linter.unusedVariables false
set_option linter.unusedSimpArgs false

theorem ev_bnd {α β : Type} {g : Nat → Option α} {f : Nat → α → Option β} {a : α} {r : β} (h1 : Ev g a) (h2 : Ev (fun k => f k a) r) : Ev (fun k => (g k).bind (f k)) r := by
 obtain ⟨K1, h1⟩ := h1
 obtain ⟨K2, h2⟩ := h2
 exact ⟨K1 + K2, fun k hk => by show (g k).bind (f k) = some r; rw [h1 k (by omega)]; exact h2 k (by omega)⟩
theorem ev_of {α : Type} {c : Option α} {r : α} (h : c = some r) : Ev (fun _ => c) r := ⟨0, fun _ _ => h⟩
theorem ev_suc {α : Type} {g : Nat → Option α} {r : α} (h : Ev (fun k => g (k + 1)) r) : Ev g r := by
 obtain ⟨K, h⟩ := h
 exact ⟨K + 1, fun k hk => by obtain ⟨k, rfl⟩ : ∃ n, k = n + 1 := ⟨k - 1, by omega⟩; exact h k (by omega)⟩
theorem ev_get {α : Type} {g : Nat → Option α} {r : α} (h : Ev g r) : ∃ k, g k = some r := by obtain ⟨K, h⟩ := h; exact ⟨K, h K (Nat.le_refl _)⟩
theorem ev_congr {α : Type} {g : Nat → Option α} {r r' : α} (h : Ev g r) (e : r = r') : Ev g r' := e ▸ h

theorem bne_false {α : Type} [BEq α] [ReflBEq α] (a : α) : (a != a) = false := by simp [bne]

theorem wrap_nat {x : Int} {n : Nat} (h : x = n) (hn : n ≤ 4611686018427387904) : wrap64 x = (n : Int) := by rw [h, wrap_id (by omega) (by omega)]
theorem wrap_succ {i : Nat} (hn : i < 4611686018427387904) : wrap64 ((i : Int) + 1) = ((i + 1 : Nat) : Int) := wrap_nat (n := i + 1) (by omega) (by omega)
theorem rd_nat (l : List Int) (i : Nat) (h : i < l.length) : rd l (i : Int) = l[i] := by simp [rd, h]
theorem rdOf_nat {α : Type} (d : α) (l : List α) (i : Nat) (h : i < l.length) : rdOf d l (i : Int) = l[i] := by simp [rdOf, h]

end Go.Proofs.YtcfphjjdbccnoaaGreat.PF

namespace Go.Proofs.YtcfphjjdbccnoaaGreat.PF
open Go.RowKit Go.Proofs.YtcfphjjdbccnoaaGreatW.PrintWords Go.Proofs.YtcfphjjdbccnoaaGreatW.PrintLast Go.Proofs.YtcfphjjdbccnoaaGreatW.PrintMore
set_option linter.unusedVariables false
set_option linter.unusedSimpArgs false

theorem codeW_zero {b : Bool} {l : List ByteArray} : codeW b l = 0 ↔ l.all isW = true ∧ b = true := by
 unfold codeW
 by_cases h : l.all isW = true <;> cases b <;> simp [h]

theorem sz_word {w : ByteArray} {l : List ByteArray} {b : Bool} (h : codeW b (w :: l) = 0) : w.size ≤ 60 := by
 have := (codeW_zero.1 h).1
 simp only [List.all_cons, Bool.and_eq_true] at this
 exact isW_size this.1
theorem sz_word2 {w v : ByteArray} {l : List ByteArray} {b : Bool} (h : codeW b (w :: v :: l) = 0) : v.size ≤ 60 := by
 have := (codeW_zero.1 h).1
 simp only [List.all_cons, Bool.and_eq_true] at this
 exact isW_size this.2.1
theorem codeW_le {b : Bool} {l : List ByteArray} : codeW b l = 0 ∨ codeW b l = 1 ∨ codeW b l = 2 := by unfold codeW; split <;> (try split) <;> simp

end Go.Proofs.YtcfphjjdbccnoaaGreat.PF
