/- Plain facts on words: order, sorted lists of words, what the tests of words come to. -/
import Derived.Test.YtfihfeffbhohjaaPFGivB
import Derived.Test.YtfihfeffbhohjaaPFx3
import Derived.Test.YtfihfeffbhohjaaPFGivR
import Derived.Test.YtfihfeffbhohjaaPFx6
import Derived.Test.YtfihfeffbhohjaaPFx1
import Derived.Test.YtfihfeffbhohjaaPFx5
import Derived.Test.YtfihfeffbhohjaaPFx7
import Derived.Test.YtfihfeffbhohjaaPFx4
namespace Go.Proofs.Ytfihfeffbhohjaa.PF
open Go.RowKit Go.Proofs.YtfihfeffbhohjaaW.PrintWords Go.Proofs.YtfihfeffbhohjaaW.PrintLast Go.Proofs.YtfihfeffbhohjaaW.PrintMore
set_option linter.unusedVariables false
set_option linter.unusedSimpArgs false

theorem wrap_id {x : Int} (h0 : -9223372036854775808 ≤ x) (h1 : x ≤ 9223372036854775807) : wrap64 x = x := by
 unfold wrap64; omega

/-! ### order -/
theorem less_iff : ∀ a b : List UInt8, Op.bytesLess a b = true ↔ a < b
 | [], [] => by simp [Op.bytesLess]
 | [], b :: y => by simp [Op.bytesLess]
 | a :: x, [] => by simp [Op.bytesLess]
 | a :: x, b :: y => by
  rw [List.cons_lt_cons_iff, ← less_iff x y]
  simp [Op.bytesLess]

theorem toList_eq (a : ByteArray) : a.toList = a.data.toList := ByteArray.toList_eq a
theorem ba_ext {a b : ByteArray} (h : a.data.toList = b.data.toList) : a = b := ByteArray.ext (Array.toList_inj.1 h)
theorem ba_inj {a b : ByteArray} : a.toList = b.toList ↔ a = b := ⟨fun h => ba_ext (by rw [← toList_eq, ← toList_eq]; exact h), fun h => by rw [h]⟩
theorem ba_mk (a : ByteArray) : (⟨a.data.toList.toArray⟩ : ByteArray) = a := by cases a; simp

/-- Words strictly in order. -/
def SS (l : List ByteArray) : Prop := l.Pairwise fun a b => a.toList < b.toList

theorem SS_uniq : ∀ {l l' : List ByteArray}, SS l → SS l' → (∀ x, x ∈ l ↔ x ∈ l') → l = l'
 | [], [], _, _, _ => rfl
 | [], b :: l', _, _, h => by have := (h b).2 (by simp); simp at this
 | a :: l, [], _, _, h => by have := (h a).1 (by simp); simp at this
 | a :: l, b :: l', h1, h2, h => by
  obtain ⟨h1a, h1b⟩ := List.pairwise_cons.1 h1
  obtain ⟨h2a, h2b⟩ := List.pairwise_cons.1 h2
  have hab : a = b := by
   rcases List.mem_cons.1 ((h a).1 (by simp)) with e | hm
   ·
    exact e
   ·
    rcases List.mem_cons.1 ((h b).2 (by simp)) with e | hm2
    ·
     exact e.symm
    ·
     exact absurd (List.lt_trans (h1a b hm2) (h2a a hm)) (List.lt_irrefl _)
  subst hab
  refine congrArg _ (SS_uniq h1b h2b fun x => ⟨fun hx => ?_, fun hx => ?_⟩)
  ·
   rcases List.mem_cons.1 ((h x).1 (by simp [hx])) with e | hm
   ·
    subst e; exact absurd (h1a x hx) (List.lt_irrefl _)
   ·
    exact hm
  ·
   rcases List.mem_cons.1 ((h x).2 (by simp [hx])) with e | hm
   ·
    subst e; exact absurd (h2a x hx) (List.lt_irrefl _)
   ·
    exact hm

theorem SS_nodup {l : List ByteArray} (h : SS l) : l.Nodup := h.imp fun hab e => by subst e; exact absurd hab (List.lt_irrefl _)

/-! ### sorted lists -/
theorem mem_compact (zs : List (List UInt8)) (y : List UInt8) : y ∈ Lib.compact zs ↔ y ∈ zs := by
 unfold Lib.compact Lib.compactUpTo
 simp only [List.mem_map, List.mem_filter, List.mem_range]
 constructor
 ·
  rintro ⟨j, ⟨hj, _⟩, rfl⟩
  simp [hj]
 ·
  intro hy
  obtain ⟨j, hj, hjy⟩ := List.getElem_of_mem hy
  have key : ∀ n, ∀ j, j ≤ n → (hj : j < zs.length) → zs[j] = y → ∃ a, (a < zs.length ∧ Lib.keeps zs.toArray a = true) ∧ zs.toArray[a]! = y := by
   intro n
   induction n with
   | zero =>
    intro j hn hj hjy
    obtain rfl : j = 0 := by omega
    exact ⟨0, ⟨hj, Lib.keeps_lt_one _ 0 (by omega)⟩, by simp [hj, hjy]⟩
   | succ n ih =>
    intro j hn hj hjy
    by_cases hk : Lib.keeps zs.toArray j = true
    ·
     exact ⟨j, ⟨hj, hk⟩, by simp [hj, hjy]⟩
    ·
     have hj0 : j ≠ 0 := fun e => hk (by rw [e]; exact Lib.keeps_lt_one _ 0 (by omega))
     have he : zs.toArray[j]! = zs.toArray[j - 1]! := by
      by_cases he : zs.toArray[j]! = zs.toArray[j - 1]!
      ·
       exact he
      ·
       exact absurd (Lib.keeps_pos he) hk
     have hj1 : j - 1 < zs.length := by omega
     refine ih (j - 1) (by omega) hj1 ?_
     simp [hj, hj1] at he
     rw [← he]; exact hjy
  exact key j j (Nat.le_refl _) hj hjy

theorem compact_lt {zs : List (List UInt8)} (h : zs.Pairwise (· ≤ ·)) : (Lib.compact zs).Pairwise (· < ·) := by
 unfold Lib.compact Lib.compactUpTo
 rw [List.pairwise_map]
 refine List.Pairwise.imp_of_mem ?_ (List.Pairwise.filter _ List.pairwise_lt_range)
 intro i j hi hj hij
 obtain ⟨hi1, hi2⟩ := List.mem_filter.1 hi
 obtain ⟨hj1, hj2⟩ := List.mem_filter.1 hj
 simp only [List.mem_range] at hi1 hj1
 have hne : zs.toArray[j]! ≠ zs.toArray[j - 1]! := by
  intro e
  rw [Lib.keeps_neg (by omega) e] at hj2
  cases hj2
 have hj3 : j - 1 < zs.length := by omega
 have hle : ∀ a b (ha : a < zs.length) (hb : b < zs.length), a ≤ b → zs[a] ≤ zs[b] := by
  intro a b ha hb hab
  rcases Nat.lt_or_ge a b with hlt | hge
  ·
   exact List.pairwise_iff_getElem.1 h a b ha hb hlt
  ·
   obtain rfl : a = b := by omega
   exact List.le_refl _
 have h1 := hle i (j - 1) hi1 hj3 (by omega)
 have h2 := hle (j - 1) j hj3 hj1 (by omega)
 simp [hi1, hj1, hj3] at hne ⊢
 exact List.lt_of_le_of_lt h1 (Std.lt_of_le_of_ne h2 (fun e => hne e.symm))

/-- The words of a list, in order, each once. -/
def canon (l : List ByteArray) : List ByteArray := (sortedL (l.map fun b => b.data.toList)).map fun x => ⟨x.toArray⟩

theorem canon_SS (l : List ByteArray) : SS (canon l) := by
 unfold SS canon sortedL
 rw [List.pairwise_map]
 have h := List.pairwise_mergeSort (le := fun x y : List UInt8 => decide (x ≤ y)) (fun a b c h1 h2 => by simp only [decide_eq_true_eq] at *; exact List.le_trans h1 h2)
  (fun a b => by rcases List.le_total a b with h | h <;> simp [h]) (l.map fun b => b.data.toList)
 simp only [decide_eq_true_eq] at h
 exact (compact_lt h).imp fun hab => by rw [toList_eq, toList_eq]; exact hab

theorem mem_canon (l : List ByteArray) (x : ByteArray) : x ∈ canon l ↔ x ∈ l := by
 unfold canon sortedL
 simp only [List.mem_map, mem_compact, List.mem_mergeSort]
 constructor
 ·
  rintro ⟨_, ⟨a, ha, rfl⟩, rfl⟩; rw [ba_mk]; exact ha
 ·
  intro hx; exact ⟨_, ⟨x, hx, rfl⟩, ba_mk x⟩

theorem canon_eq {l r : List ByteArray} (h : SS r) (hm : ∀ x, x ∈ r ↔ x ∈ l) : r = canon l := SS_uniq h (canon_SS l) fun x => by rw [hm, mem_canon]

theorem canon_length_le (l : List ByteArray) : (canon l).length ≤ l.length := by
 unfold canon sortedL
 rw [List.length_map]
 have := Lib.compact_length_le ((l.map fun b => b.data.toList).mergeSort fun x y => decide (x ≤ y))
 rw [List.length_mergeSort, List.length_map] at this
 exact this

theorem sorted_f {l : List ByteArray} (h : l.length < 4611686018427387904) : impl_sorted.f l = some (canon l) := by
 unfold impl_sorted.f; rw [if_pos h]; rfl

/-! ### tests of words -/
theorem drop_bytes (a : ByteArray) (i : Nat) (h : i < a.size) : (bytesOf a).drop i = bt a (i : Int) :: (bytesOf a).drop (i + 1) := by
 rw [rd_drop _ i (by rw [bytesOf_length]; exact h), rd_bytesOf]

theorem is_loop (a : ByteArray) (ha : a.size ≤ 9000000000000000000) : ∀ (d k i : Nat), i + d = a.size → d < k → spec_l01Is.l0 k a (i : Int) = some (decide (a.size ≤ 60) && ((bytesOf a).drop i).all isLet) := by
 intro d
 induction d with
 | zero =>
  intro k i hd hk
  obtain ⟨k, rfl⟩ : ∃ m, k = m + 1 := ⟨k - 1, by omega⟩
  simp only [spec_l01Is.l0]
  rw [if_neg (by omega), List.drop_eq_nil_of_le (by rw [bytesOf_length]; omega)]
  simp
  omega
 | succ d ih =>
  intro k i hd hk
  obtain ⟨k, rfl⟩ : ∃ m, k = m + 1 := ⟨k - 1, by omega⟩
  simp only [spec_l01Is.l0]
  rw [if_pos (by omega), if_pos (by omega), drop_bytes a i (by omega)]
  simp only [List.all_cons, isLet]
  by_cases h1 : bt a (i : Int) < 97
  ·
   rw [if_pos h1, decide_eq_false (by omega : ¬ 97 ≤ bt a (i : Int))]; simp
  ·
   rw [if_neg h1]
   by_cases h2 : bt a (i : Int) > 101
   ·
    rw [if_pos h2, decide_eq_false (by omega : ¬ bt a (i : Int) < 102)]; simp
   ·
    rw [if_neg h2, decide_eq_true (by omega : 97 ≤ bt a (i : Int)), decide_eq_true (by omega : bt a (i : Int) < 102), wrap_id (by omega) (by omega)]
    rw [show (i : Int) + 1 = ((i + 1 : Nat) : Int) from rfl, ih k (i + 1) (by omega) (by omega)]
    simp [isLet]

theorem l01Is_ev (a : ByteArray) (ha : a.size ≤ 9000000000000000000) : Ev (fun k => spec_l01Is.f k a) (isW a) :=
 ⟨a.size + 1, fun k hk => by
  have h := is_loop a ha a.size k 0 (by omega) (by omega)
  exact h⟩

theorem isW_size {a : ByteArray} (h : isW a = true) : a.size ≤ 60 := by
 simp only [isW, Bool.and_eq_true, decide_eq_true_eq] at h; exact h.1

/-- The code of words with a range. -/
def codeW (b : Bool) (l : List ByteArray) : Int := if l.all isW = true then (if b = true then 0 else 2) else 1
theorem wordCode_f (k : Nat) (b : Bool) (l : List ByteArray) : impl_wordCode.f k (some b) l = some (codeW b l) := by
 unfold impl_wordCode.f codeW
 split
 ·
  simp only [Option.bind_some]; split <;> rfl
 ·
  rfl

end Go.Proofs.Ytfihfeffbhohjaa.PF

namespace Go.Proofs.Ytfihfeffbhohjaa.PF
open Go.RowKit Go.Proofs.YtfihfeffbhohjaaW.PrintWords Go.Proofs.YtfihfeffbhohjaaW.PrintLast Go.Proofs.YtfihfeffbhohjaaW.PrintMore
set_option linter.unusedVariables false
set_option linter.unusedSimpArgs false

theorem ev_bnd {α β : Type} {g : Nat → Option α} {f : Nat → α → Option β} {a : α} {r : β} (h1 : Ev g a) (h2 : Ev (fun k => f k a) r) : Ev (fun k => (g k).bind (f k)) r := by
 obtain ⟨K1, h1⟩ := h1
 obtain ⟨K2, h2⟩ := h2
 exact ⟨K1 + K2, fun k hk => by show (g k).bind (f k) = some r; rw [h1 k (by omega)]; exact h2 k (by omega)⟩
theorem ev_of {α : Type} {c : Option α} {r : α} (h : c = some r) : Ev (fun _ => c) r := ⟨0, fun _ _ => h⟩
theorem ev_suc {α : Type} {g : Nat → Option α} {r : α} (h : Ev (fun k => g (k + 1)) r) : Ev g r := by
 obtain ⟨K, h⟩ := h
 exact ⟨K + 1, fun k hk => by obtain ⟨k, rfl⟩ : ∃ n, k = n + 1 := ⟨k - 1, by omega⟩; exact h k (by omega)⟩
theorem ev_get {α : Type} {g : Nat → Option α} {r : α} (h : Ev g r) : ∃ k, g k = some r := by obtain ⟨K, h⟩ := h; exact ⟨K, h K (Nat.le_refl _)⟩
theorem ev_congr {α : Type} {g : Nat → Option α} {r r' : α} (h : Ev g r) (e : r = r') : Ev g r' := e ▸ h

theorem bne_false {α : Type} [BEq α] [ReflBEq α] (a : α) : (a != a) = false := by simp [bne]

theorem wrap_nat {x : Int} {n : Nat} (h : x = n) (hn : n ≤ 4611686018427387904) : wrap64 x = (n : Int) := by rw [h, wrap_id (by omega) (by omega)]
theorem wrap_succ {i : Nat} (hn : i < 4611686018427387904) : wrap64 ((i : Int) + 1) = ((i + 1 : Nat) : Int) := wrap_nat (n := i + 1) (by omega) (by omega)
theorem rd_nat (l : List Int) (i : Nat) (h : i < l.length) : rd l (i : Int) = l[i] := by simp [rd, h]
theorem rdOf_nat {α : Type} (d : α) (l : List α) (i : Nat) (h : i < l.length) : rdOf d l (i : Int) = l[i] := by simp [rdOf, h]

end Go.Proofs.Ytfihfeffbhohjaa.PF

namespace Go.Proofs.Ytfihfeffbhohjaa.PF
open Go.RowKit Go.Proofs.YtfihfeffbhohjaaW.PrintWords Go.Proofs.YtfihfeffbhohjaaW.PrintLast Go.Proofs.YtfihfeffbhohjaaW.PrintMore
set_option linter.unusedVariables false
set_option linter.unusedSimpArgs false

theorem codeW_zero {b : Bool} {l : List ByteArray} : codeW b l = 0 ↔ l.all isW = true ∧ b = true := by
 unfold codeW
 by_cases h : l.all isW = true <;> cases b <;> simp [h]

theorem sz_word {w : ByteArray} {l : List ByteArray} {b : Bool} (h : codeW b (w :: l) = 0) : w.size ≤ 60 := by
 have := (codeW_zero.1 h).1
 simp only [List.all_cons, Bool.and_eq_true] at this
 exact isW_size this.1
theorem sz_word2 {w v : ByteArray} {l : List ByteArray} {b : Bool} (h : codeW b (w :: v :: l) = 0) : v.size ≤ 60 := by
 have := (codeW_zero.1 h).1
 simp only [List.all_cons, Bool.and_eq_true] at this
 exact isW_size this.2.1
theorem codeW_le {b : Bool} {l : List ByteArray} : codeW b l = 0 ∨ codeW b l = 1 ∨ codeW b l = 2 := by unfold codeW; split <;> (try split) <;> simp

end Go.Proofs.Ytfihfeffbhohjaa.PF

namespace Go.Proofs.Ytfihfeffbhohjaa.PF
open Go.RowKit Go.Proofs.YtfihfeffbhohjaaW.PrintWords Go.Proofs.YtfihfeffbhohjaaW.PrintLast Go.Proofs.YtfihfeffbhohjaaW.PrintMore
set_option linter.unusedVariables false
set_option linter.unusedSimpArgs false

def isPal (a : ByteArray) : Bool := decide (a.toList = a.toList.reverse)

theorem rev_toList (a : ByteArray) : (rev a).toList = a.toList.reverse := by
 rw [toList_eq, toList_eq]
 simp only [rev, strOfNums, bytesOf]
 rw [← List.map_reverse, List.map_map]
 have h : ((fun n : Int => UInt8.ofNat n.toNat) ∘ fun b : UInt8 => (b.toNat : Int)) = id := funext fun b => by simp
 rw [h, List.map_id]

theorem isPal_f (a : ByteArray) (ha : a.size ≤ 1000000) : impl_isPalindrome.f a = some (isPal a) := by
 unfold impl_isPalindrome.f impl_reversed.f
 rw [if_pos (by omega)]
 simp only [Option.bind_some, rev_toList]
 rw [isPal]
 congr 1
 by_cases h : a.toList = a.toList.reverse
 ·
  rw [decide_eq_true h]; exact beq_iff_eq.2 h
 ·
  rw [decide_eq_false h]; exact beq_eq_false_iff_ne.2 h

theorem pal_loop (a : ByteArray) (ha : a.size ≤ 1000000) : ∀ (d k i : Nat), a.size ≤ i + d → i ≤ a.size → d < k → ∃ b, spec_l04Is.l0 k a (i : Int) ((a.size : Int) - 1 - i) = some b ∧ (b = true ↔ ∀ t : Nat, i ≤ t → 2 * t + 1 < a.size → bt a (t : Int) = bt a ((a.size - 1 - t : Nat) : Int)) := by
 intro d
 induction d with
 | zero =>
  intro k i hd hi hk
  obtain ⟨k, rfl⟩ : ∃ n, k = n + 1 := ⟨k - 1, by omega⟩
  refine ⟨true, ?_, ⟨fun _ t h1 h2 => by omega, fun _ => rfl⟩⟩
  simp only [spec_l04Is.l0]; rw [if_neg (by omega)]
 | succ d ih =>
  intro k i hd hi hk
  obtain ⟨k, rfl⟩ : ∃ n, k = n + 1 := ⟨k - 1, by omega⟩
  by_cases h : 2 * i + 1 < a.size
  ·
   obtain ⟨b, h1, h2⟩ := ih k (i + 1) (by omega) (by omega) (by omega)
   have hj : ((a.size : Int) - 1 - i) = ((a.size - 1 - i : Nat) : Int) := by omega
   by_cases c : bt a (i : Int) = bt a ((a.size - 1 - i : Nat) : Int)
   ·
    refine ⟨b, ?_, ?_⟩
    ·
     simp only [spec_l04Is.l0]
     rw [if_pos (by omega), if_pos (by omega), if_pos (by omega), if_pos (by omega), if_pos (by omega), hj, if_pos c, wrap_succ (by omega), wrap_id (x := ((a.size - 1 - i : Nat) : Int) - 1) (by omega) (by omega), ← h1]
     congr 1; omega
    ·
     rw [h2]
     constructor
     ·
      intro g t ht1 ht2
      by_cases e : t = i
      ·
       subst e; exact c
      ·
       exact g t (by omega) ht2
     ·
      exact fun g t ht1 ht2 => g t (by omega) ht2
   ·
    refine ⟨false, ?_, ⟨fun g => (by cases g), fun g => absurd (g i (Nat.le_refl _) h) c⟩⟩
    simp only [spec_l04Is.l0]
    rw [if_pos (by omega), if_pos (by omega), if_pos (by omega), if_pos (by omega), if_pos (by omega), hj, if_neg c]
  ·
   refine ⟨true, ?_, ⟨fun _ t h1 h2 => by omega, fun _ => rfl⟩⟩
   simp only [spec_l04Is.l0]; rw [if_neg (by omega)]

theorem bt_eq (a : ByteArray) (t : Nat) (h : t < a.toList.length) : bt a (t : Int) = ((a.toList[t]).toNat : Int) := by
 have h' : t < a.size := by rw [toList_eq, Array.length_toList] at h; exact h
 simp only [bt, Int.toNat_natCast, h', dite_true]
 congr 2
 simp only [toList_eq, Array.getElem_toList]; rfl

theorem l04Is_f (a : ByteArray) (ha : a.size ≤ 1000000) (k : Nat) (hk : a.size < k) : spec_l04Is.f k a = some (isPal a) := by
 obtain ⟨b, h1, h2⟩ := pal_loop a ha a.size k 0 (by omega) (by omega) hk
 unfold spec_l04Is.f
 rw [wrap_id (by omega) (by omega), show (a.size : Int) - 1 = (a.size : Int) - 1 - ((0 : Nat) : Int) by omega, show (0 : Int) = ((0 : Nat) : Int) from rfl, h1]
 congr 1
 have hl : a.toList.length = a.size := by rw [toList_eq, Array.length_toList]; rfl
 rw [Bool.eq_iff_iff, h2, isPal, decide_eq_true_eq]
 constructor
 ·
  intro g
  refine List.ext_getElem (by simp) fun t ht1 ht2 => ?_
  rw [List.getElem_reverse]
  have key : ∀ t : Nat, 2 * t + 1 < a.size → ∀ (x : t < a.toList.length) (y : a.size - 1 - t < a.toList.length), a.toList[t] = a.toList[a.size - 1 - t] := fun t h x y => by
   have := g t (Nat.zero_le _) h
   rw [bt_eq a t x, bt_eq a _ y] at this
   exact UInt8.toNat_inj.1 (by omega)
  have e : a.toList.length - 1 - t = a.size - 1 - t := by omega
  simp only [e]
  rcases Nat.lt_trichotomy (2 * t + 1) a.size with h | h | h
  ·
   exact key t h _ _
  ·
   congr 1; omega
  ·
   have := key (a.size - 1 - t) (by omega) (by omega) (by omega)
   rw [this]; congr 1; omega
 ·
  intro g t _ ht
  have x : t < a.toList.length := by omega
  have y : a.size - 1 - t < a.toList.length := by omega
  rw [bt_eq a t x, bt_eq a _ y]
  have e : a.toList[t] = a.toList.reverse[t]'(by simp; omega) := by congr 1
  rw [e, List.getElem_reverse]
  congr 2
  simp only [hl]

end Go.Proofs.Ytfihfeffbhohjaa.PF

namespace Go.Proofs.Ytfihfeffbhohjaa.PF
open Go.RowKit Go.Proofs.YtfihfeffbhohjaaW.PrintWords Go.Proofs.YtfihfeffbhohjaaW.PrintLast Go.Proofs.YtfihfeffbhohjaaW.PrintMore
set_option linter.unusedVariables false
set_option linter.unusedSimpArgs false

theorem rdOf_get {α : Type} (d : α) (l : List α) (i : Nat) (h : i < l.length) : rdOf d l (i : Int) = l[i] := by
 simp [rdOf, h]

/-- The reference's insertion: from place n down; what lies from n on is greater. -/
theorem put_loop (l : List ByteArray) (x : ByteArray) (hS : SS l) (hl : l.length < 4000000000000) : ∀ (n k : Nat), n ≤ l.length → n < k → (∀ j (hj : j < l.length), n ≤ j → x.toList < l[j].toList) →
  ∃ r, spec_l01Put.l0 k l x (n : Int) = some r ∧ SS r ∧ (∀ y, y ∈ r ↔ y ∈ l ∨ y = x) := by
 intro n
 induction n with
 | zero =>
  intro k hn hk hgt
  obtain ⟨k, rfl⟩ : ∃ m, k = m + 1 := ⟨k - 1, by omega⟩
  refine ⟨x :: l, ?_, ?_, ?_⟩
  ·
   simp only [spec_l01Put.l0]
   rw [if_neg (by omega)]
   try simp only [Option.bind_some]
   rw [if_pos (by omega), if_pos (by omega)]
   simp only [Int.toNat_natCast, List.take_zero, List.drop_zero, List.nil_append, List.length_nil, List.length_singleton]
   rw [if_pos (by omega)]
   try simp only [Option.bind_some]
   rw [if_pos (by omega)]
   simp only [Option.bind_some, List.singleton_append]
   rw [if_pos (by first | omega | (simp; omega))]
  ·
   refine List.pairwise_cons.2 ⟨fun y hy => ?_, hS⟩
   obtain ⟨j, hj, rfl⟩ := List.getElem_of_mem hy
   exact hgt j hj (by omega)
  ·
   intro y; simp [or_comm]
 | succ n ih =>
  intro k hn hk hgt
  obtain ⟨k, rfl⟩ : ∃ m, k = m + 1 := ⟨k - 1, by omega⟩
  have hw : wrap64 (((n + 1 : Nat) : Int) - 1) = (n : Int) := by rw [wrap_id (by omega) (by omega)]; omega
  simp only [spec_l01Put.l0, hw]
  rw [if_pos (by omega), if_pos (by omega), if_pos (by omega), rdOf_get _ _ n (by omega)]
  by_cases h1 : Op.bytesLess x.toList l[n].toList = true
  ·
   rw [if_pos h1]
   refine ih k (by omega) (by omega) ?_
   intro j hj hnj
   by_cases e : j = n
   ·
    subst e; exact (less_iff _ _).1 h1
   ·
    exact hgt j hj (by omega)
  ·
   rw [if_neg h1]
   by_cases h2 : l[n].toList = x.toList
   ·
    rw [if_pos h2]
    have hx := ba_inj.1 h2
    exact ⟨l, rfl, hS, fun y => ⟨.inl, fun h => h.elim id (fun e => by rw [e, ← hx]; exact List.getElem_mem _)⟩⟩
   ·
    rw [if_neg h2]
    have hlt : l[n].toList < x.toList := by
     have : ¬ x.toList < l[n].toList := fun h => h1 ((less_iff _ _).2 h)
     exact Std.lt_of_le_of_ne this h2
    refine ⟨l.take (n + 1) ++ [x] ++ l.drop (n + 1), ?_, ?_, ?_⟩
    ·
     simp only [Option.bind_some]
     rw [if_pos (by omega), if_pos (by omega)]
     simp only [Int.toNat_natCast, List.nil_append, List.length_nil, Nat.zero_add]
     rw [if_pos (by rw [List.length_take]; omega)]
     try simp only [Option.bind_some]
     rw [if_pos (by rw [List.length_take]; omega)]
     try simp only [Option.bind_some]
     rw [if_pos (by simp only [List.length_append, List.length_take, List.length_singleton, List.length_drop]; omega)]
    ·
     have htd : SS (l.take (n + 1) ++ l.drop (n + 1)) := by rw [List.take_append_drop]; exact hS
     obtain ⟨p1, p2, p3⟩ := List.pairwise_append.1 htd
     unfold SS
     rw [List.append_assoc]
     refine List.pairwise_append.2 ⟨p1, ?_, ?_⟩
     ·
      rw [List.singleton_append]
      refine List.pairwise_cons.2 ⟨fun y hy => ?_, p2⟩
      obtain ⟨j, hj, rfl⟩ := List.getElem_of_mem hy
      rw [List.getElem_drop]
      rw [List.length_drop] at hj
      exact hgt (n + 1 + j) (by omega) (by omega)
     ·
      intro a ha b hb
      have hax : a.toList < x.toList := by
       obtain ⟨j, hj, rfl⟩ := List.getElem_of_mem ha
       rw [List.length_take] at hj
       rw [List.getElem_take]
       by_cases e : j = n
       ·
        subst e; exact hlt
       ·
        exact List.lt_trans (List.pairwise_iff_getElem.1 hS j n (by omega) (by omega) (by omega)) hlt
      rcases List.mem_append.1 hb with hb | hb
      ·
       obtain rfl := List.mem_singleton.1 hb; exact hax
      ·
       exact p3 a ha b hb
    ·
     intro y
     have : y ∈ l ↔ y ∈ l.take (n + 1) ∨ y ∈ l.drop (n + 1) := by rw [← List.mem_append, List.take_append_drop]
     rw [this]
     simp only [List.mem_append, List.mem_singleton]
     constructor
     ·
      rintro ((h | h) | h)
      ·
       exact .inl (.inl h)
      ·
       exact .inr h
      ·
       exact .inl (.inr h)
     ·
      rintro ((h | h) | h)
      ·
       exact .inl (.inl h)
      ·
       exact .inr h
      ·
       exact .inl (.inr h)

theorem put_ev (l : List ByteArray) (x : ByteArray) (hl : l.length < 4000000000000) : ∀ k, l.length < k → spec_l01Put.f k (canon l) x = some (canon (l ++ [x])) := by
 intro k hk
 have hle := canon_length_le l
 obtain ⟨r, h1, h2, h3⟩ := put_loop (canon l) x (canon_SS l) (by omega) (canon l).length k (Nat.le_refl _) (by omega) (fun j hj hn => by omega)
 unfold spec_l01Put.f
 rw [h1, canon_eq h2 (l := l ++ [x]) (fun y => by rw [h3, mem_canon]; simp)]

/-- The factors of a length, place by place, from place i on. -/
def fcsFrom (w : ByteArray) (m : Nat) : Nat → Nat → List ByteArray
 | 0, _ => []
 | d + 1, i => w.extract i (i + m) :: fcsFrom w m d (i + 1)
/-- How many places a factor of a length has. -/
def plc (w : ByteArray) (m : Nat) : Nat := w.size + 1 - m
def fcs (w : ByteArray) (m : Nat) : List ByteArray := fcsFrom w m (plc w m) 0
/-- The different factors of a length, in order. -/
def fac (w : ByteArray) (m : Nat) : List ByteArray := canon (fcs w m)

theorem fcsFrom_length (w : ByteArray) (m : Nat) : ∀ d i, (fcsFrom w m d i).length = d
 | 0, _ => rfl
 | d + 1, i => by rw [fcsFrom, List.length_cons, fcsFrom_length w m d]

theorem mem_fcsFrom (w : ByteArray) (m : Nat) (x : ByteArray) : ∀ d i, x ∈ fcsFrom w m d i ↔ ∃ j, i ≤ j ∧ j < i + d ∧ x = w.extract j (j + m)
 | 0, i => by simp [fcsFrom]; intro j h1 h2; omega
 | d + 1, i => by
  rw [fcsFrom, List.mem_cons, mem_fcsFrom w m x d (i + 1)]
  constructor
  ·
   rintro (h | ⟨j, h1, h2, h3⟩)
   ·
    exact ⟨i, by omega, by omega, h⟩
   ·
    exact ⟨j, by omega, by omega, h3⟩
  ·
   rintro ⟨j, h1, h2, h3⟩
   by_cases e : j = i
   ·
    subst e; exact .inl h3
   ·
    exact .inr ⟨j, by omega, by omega, h3⟩

theorem mem_fac (w : ByteArray) (m : Nat) (x : ByteArray) : x ∈ fac w m ↔ ∃ j, j + m ≤ w.size ∧ x = w.extract j (j + m) := by
 unfold fac fcs plc
 rw [mem_canon, mem_fcsFrom]
 constructor
 ·
  rintro ⟨j, _, h2, h3⟩; exact ⟨j, by omega, h3⟩
 ·
  rintro ⟨j, h2, h3⟩; exact ⟨j, by omega, by omega, h3⟩

theorem fac_SS (w : ByteArray) (m : Nat) : SS (fac w m) := canon_SS _
theorem fac_length_le (w : ByteArray) (m : Nat) : (fac w m).length ≤ w.size + 1 - m := by
 have := canon_length_le (fcs w m); unfold fcs at this; rw [fcsFrom_length] at this; exact this

theorem extract_size (w : ByteArray) {i j : Nat} (h1 : i ≤ j) (h2 : j ≤ w.size) : (w.extract i j).size = j - i := by
 rw [ByteArray.size_extract]; omega

theorem impl_factors_loop (w : ByteArray) (m : Nat) (hw : w.size ≤ 1000000) (hm : m ≤ 1000000) : ∀ (d k i : Nat) (acc : List ByteArray), i + d = plc w m → acc.length = i → d < k →
  impl_factors.l0 k w (m : Int) acc (i : Int) = some (canon (acc ++ fcsFrom w m d i)) := by
 intro d
 induction d with
 | zero =>
  intro k i acc hd ha hk
  obtain ⟨k, rfl⟩ : ∃ n, k = n + 1 := ⟨k - 1, by omega⟩
  unfold plc at hd
  simp only [impl_factors.l0]
  rw [wrap_id (by omega) (by omega), if_neg (by omega), sorted_f (by omega)]
  simp [fcsFrom]
 | succ d ih =>
  intro k i acc hd ha hk
  obtain ⟨k, rfl⟩ : ∃ n, k = n + 1 := ⟨k - 1, by omega⟩
  have hd' := hd
  unfold plc at hd'
  simp only [impl_factors.l0]
  rw [wrap_id (x := (i : Int) + m) (by omega) (by omega), if_pos (by omega), if_pos (by omega), if_pos (by omega), if_pos (by omega), wrap_id (x := (i : Int) + 1) (by omega) (by omega)]
  rw [show (i : Int) + 1 = ((i + 1 : Nat) : Int) from rfl, ih k (i + 1) _ (by omega) (by simp [ha]) (by omega)]
  rw [show ((i : Int) + (m : Int)).toNat = i + m by omega, Int.toNat_natCast]
  simp [fcsFrom]

theorem impl_factors_ev (w : ByteArray) (m : Nat) (hw : w.size ≤ 1000000) (hm : m ≤ 1000000) : Ev (fun k => impl_factors.f k w (m : Int)) (fac w m) :=
 ⟨w.size + 2, fun k hk => by
  have h := impl_factors_loop w m hw hm (plc w m) k 0 [] (by omega) rfl (by unfold plc; omega)
  exact h⟩

theorem canon_nil : canon [] = [] := List.eq_nil_iff_forall_not_mem.2 fun x hx => by rw [mem_canon] at hx; cases hx

end Go.Proofs.Ytfihfeffbhohjaa.PF

namespace Go.Proofs.Ytfihfeffbhohjaa.PF
open Go.RowKit Go.Proofs.YtfihfeffbhohjaaW.PrintWords Go.Proofs.YtfihfeffbhohjaaW.PrintLast Go.Proofs.YtfihfeffbhohjaaW.PrintMore
set_option linter.unusedVariables false
set_option linter.unusedSimpArgs false

theorem filterP_some {α : Type} {p : α → Option Bool} {q : α → Bool} : ∀ (l : List α), (∀ x ∈ l, p x = some (q x)) → filterP p l = some (l.filter fun x => !q x)
 | [], _ => rfl
 | x :: l, h => by
  rw [filterP, h x (by simp), filterP_some l (fun y hy => h y (by simp [hy]))]
  simp only [Option.bind_some, List.filter_cons]
  cases q x <;> simp

instance baLaw : LawfulBEq ByteArray where
 eq_of_beq {a b} h := by
  cases a with | mk a => cases b with | mk b =>
  have : (a == b) = true := h
  rw [eq_of_beq this]
 rfl {a} := by
  cases a with | mk a =>
  show (a == a) = true
  exact BEq.rfl

end Go.Proofs.Ytfihfeffbhohjaa.PF

namespace Go.Proofs.Ytfihfeffbhohjaa.PF
open Go.RowKit Go.Proofs.YtfihfeffbhohjaaW.PrintWords Go.Proofs.YtfihfeffbhohjaaW.PrintLast Go.Proofs.YtfihfeffbhohjaaW.PrintMore
set_option linter.unusedVariables false
set_option linter.unusedSimpArgs false

/-- The palindromes of a length, in order. -/
def pals (w : ByteArray) (m : Nat) : List ByteArray := (fac w m).filter isPal
def palsFrom (w : ByteArray) : Nat → Nat → List ByteArray
 | 0, _ => []
 | d + 1, m => pals w m ++ palsFrom w d (m + 1)
def palAll (w : ByteArray) : List ByteArray := palsFrom w w.size 1

theorem pals_length (w : ByteArray) (m : Nat) : (pals w m).length ≤ w.size + 1 := by
 have h1 := List.length_filter_le isPal (fac w m)
 have h2 := fac_length_le w m
 unfold pals; omega
theorem palsFrom_length (w : ByteArray) (hw : w.size ≤ 60) : ∀ d m, (palsFrom w d m).length ≤ d * 61
 | 0, _ => Nat.le_refl _
 | d + 1, m => by
  have h1 := pals_length w m
  have h2 := palsFrom_length w hw d (m + 1)
  rw [palsFrom, List.length_append]; omega
theorem palAll_length (w : ByteArray) (hw : w.size ≤ 60) : (palAll w).length ≤ 60 * 61 := by
 have := palsFrom_length w hw w.size 1
 unfold palAll
 have h : w.size * 61 ≤ 60 * 61 := Nat.mul_le_mul_right _ hw
 omega

theorem canon_filter (w : ByteArray) (m : Nat) : canon ((fcs w m).filter isPal) = pals w m := by
 refine (canon_eq (List.Pairwise.filter _ (fac_SS w m)) fun x => ?_).symm
 rw [List.mem_filter, List.mem_filter, fac, mem_canon]

theorem all_l1 (w : ByteArray) (hw : w.size ≤ 60) (m : Nat) (hm : m ≤ 61) (l : List ByteArray) (hl : l.length ≤ 1000000) : ∀ (d k i : Nat) (acc : List ByteArray), i + d = plc w m → acc.length ≤ i → 200 < k →
  spec_l04All.l1 (k + d + 1) w l (m : Int) (canon acc) (i : Int) = spec_l04All.l0 k w (l ++ canon (acc ++ (fcsFrom w m d i).filter isPal)) ((m + 1 : Nat) : Int) := by
 intro d
 induction d with
 | zero =>
  intro k i acc hd ha hk
  have hc := canon_length_le acc
  unfold plc at hd
  simp only [spec_l04All.l1]
  rw [wrap_nat (n := i + m) (by omega) (by omega), if_neg (by omega), if_pos (by omega), wrap_succ (by omega)]
  simp [fcsFrom]
 | succ d ih =>
  intro k i acc hd ha hk
  have hd' := hd
  unfold plc at hd'
  obtain ⟨q, hq⟩ : ∃ q, q = k + d + 1 := ⟨_, rfl⟩
  rw [show k + (d + 1) + 1 = q + 1 by omega]
  simp only [spec_l04All.l1]
  rw [wrap_nat (n := i + m) (by omega) (by omega), if_pos (by omega), if_pos (by omega), if_pos (by omega), Int.toNat_natCast, Int.toNat_natCast, l04Is_f _ (by rw [ByteArray.size_extract]; omega) q (by rw [ByteArray.size_extract]; omega), wrap_succ (by omega)]
  simp only [Option.bind_some]
  rw [fcsFrom, List.filter_cons]
  by_cases c : isPal (w.extract i (i + m)) = true
  ·
   rw [if_pos c, if_pos c, put_ev acc _ (by omega) q (by omega)]
   simp only [Option.bind_some]
   subst hq
   rw [ih k (i + 1) _ (by omega) (by simp; omega) hk]; simp
  ·
   rw [if_neg c, if_neg c]
   subst hq
   rw [ih k (i + 1) _ (by omega) (by omega) hk]

theorem all_l0 (w : ByteArray) (hw : w.size ≤ 60) : ∀ (d k m : Nat) (l : List ByteArray), m + d = w.size + 1 → 1 ≤ m → l.length ≤ m * 61 → d * 100 + 1000 < k →
  spec_l04All.l0 k w l (m : Int) = some (l ++ palsFrom w d m) := by
 intro d
 induction d with
 | zero =>
  intro k m l hd hm hl hk
  obtain ⟨k, rfl⟩ : ∃ n, k = n + 1 := ⟨k - 1, by omega⟩
  simp only [spec_l04All.l0]
  rw [if_neg (by omega)]; simp [palsFrom]
 | succ d ih =>
  intro k m l hd hm hl hk
  have hpl : plc w m ≤ 61 := by unfold plc; omega
  obtain ⟨k, rfl⟩ : ∃ n, k = n + plc w m + 1 + 1 := ⟨k - plc w m - 2, by omega⟩
  have h1 := all_l1 w hw m (by omega) l (by omega) (plc w m) k 0 [] (by omega) (by simp) (by omega)
  have h2 := pals_length w m
  simp only [spec_l04All.l0]
  rw [canon_nil, List.nil_append] at h1
  rw [if_pos (by omega), show (0 : Int) = ((0 : Nat) : Int) from rfl, h1, show canon ((fcsFrom w m (plc w m) 0).filter isPal) = pals w m from canon_filter w m, ih k (m + 1) _ (by omega) (by omega) (by rw [List.length_append]; omega) (by omega), palsFrom]
  simp
theorem l04All_f (w : ByteArray) (hw : w.size ≤ 60) (k : Nat) (hk : 8000 < k) : spec_l04All.f k w = some (palAll w) := by
 have h := all_l0 w hw w.size k 1 [] (by omega) (by omega) (by simp) (by omega)
 exact h
theorem pal_l0 (w : ByteArray) (hw : w.size ≤ 60) : ∀ (d k m : Nat) (l : List ByteArray), m + d = w.size + 1 → 1 ≤ m → l.length ≤ m * 61 → d + 1000 < k →
  impl_palindromes.l0 k w l (m : Int) = some (l ++ palsFrom w d m) := by
 intro d
 induction d with
 | zero =>
  intro k m l hd hm hl hk
  obtain ⟨k, rfl⟩ : ∃ n, k = n + 1 := ⟨k - 1, by omega⟩
  simp only [impl_palindromes.l0]
  rw [if_neg (by omega)]; simp [palsFrom]
 | succ d ih =>
  intro k m l hd hm hl hk
  obtain ⟨k, rfl⟩ : ∃ n, k = n + 1 := ⟨k - 1, by omega⟩
  have hf : impl_factors.f k w (m : Int) = some (fac w m) := by
   have h := impl_factors_loop w m (by omega) (by omega) (plc w m) k 0 [] (by omega) rfl (by unfold plc; omega)
   exact h
  have hdel : slices_DeleteFunc_string_string.f k (fac w m) (fun z0_ => impl_palindromes_1.f z0_) = some (pals w m) := by
   show filterP _ _ = _
   rw [filterP_some (q := fun u => !isPal u) _ (fun u hu => by
    obtain ⟨j, h1, rfl⟩ := (mem_fac w m u).1 hu
    show impl_palindromes_1.f _ = _
    unfold impl_palindromes_1.f
    rw [isPal_f _ (by rw [ByteArray.size_extract]; omega)]; rfl)]
   simp only [Bool.not_not]; rfl
  have h2 := pals_length w m
  simp only [impl_palindromes.l0]
  rw [if_pos (by omega), hf]
  simp only [Option.bind_some]
  rw [hdel]
  simp only [Option.bind_some]
  rw [if_pos (by omega), wrap_succ (by omega), ih k (m + 1) _ (by omega) (by omega) (by rw [List.length_append]; omega) (by omega), palsFrom]
  simp
theorem palindromes_f (w : ByteArray) (hw : w.size ≤ 60) (k : Nat) (hk : 2000 < k) : impl_palindromes.f k w = some (palAll w) := by
 have h := pal_l0 w hw w.size k 1 [] (by omega) (by omega) (by simp) (by omega)
 exact h

end Go.Proofs.Ytfihfeffbhohjaa.PF

namespace Go.Proofs.Ytfihfeffbhohjaa.PF
open Go.RowKit Go.Proofs.YtfihfeffbhohjaaW.PrintWords Go.Proofs.YtfihfeffbhohjaaW.PrintLast Go.Proofs.YtfihfeffbhohjaaW.PrintMore
set_option linter.unusedVariables false
set_option linter.unusedSimpArgs false
set_option maxRecDepth 20000

theorem tl_len (a : ByteArray) : a.toList.length = a.size := by rw [toList_eq, Array.length_toList]; rfl
theorem tl_extract (a : ByteArray) (i j : Nat) : (a.extract i j).toList = (a.toList.take j).drop i := by
 rw [toList_eq, toList_eq]
 simp only [ByteArray.data_extract, Array.toList_extract, List.extract_eq_take_drop, List.drop_take]
theorem isPal_iff (a : ByteArray) : isPal a = true ↔ a.toList = a.toList.reverse := by simp [isPal]

/-- The letters of a word from i to j. -/
def cut (W : List UInt8) (i j : Nat) : List UInt8 := (W.take j).drop i
def PalL (l : List UInt8) : Prop := l = l.reverse
theorem cut_len (W : List UInt8) (i j : Nat) (h : j ≤ W.length) : (cut W i j).length = j - i := by
 simp [cut, List.length_drop, List.length_take, Nat.min_eq_left h]
theorem cut_get (W : List UInt8) (i j t : Nat) (h : j ≤ W.length) (ht : t < j - i) : (cut W i j)[t]'(by rw [cut_len W i j h]; exact ht) = W[i + t]'(by omega) := by
 simp [cut, List.getElem_drop, List.getElem_take]
theorem pal_cut_iff (W : List UInt8) (i j : Nat) (h : j ≤ W.length) (hij : i ≤ j) : PalL (cut W i j) ↔ ∀ t (ht : t < j - i), W[i + t]'(by omega) = W[j - 1 - t]'(by omega) := by
 have hl := cut_len W i j h
 constructor
 ·
  intro hp t ht
  have e1 := cut_get W i j t h ht
  have e2 := cut_get W i j (j - i - 1 - t) h (by omega)
  have e3 : (cut W i j)[t]'(by omega) = (cut W i j).reverse[t]'(by rw [List.length_reverse]; omega) := by
   have hp' : cut W i j = (cut W i j).reverse := hp
   exact List.getElem_of_eq hp' _
  rw [List.getElem_reverse] at e3
  have e4 : (cut W i j).length - 1 - t = j - i - 1 - t := by omega
  simp only [e4] at e3
  rw [e1, e2] at e3
  rw [e3]; congr 1; omega
 ·
  intro hq
  refine List.ext_getElem (by simp) fun t h1 h2 => ?_
  rw [List.getElem_reverse]
  have e4 : (cut W i j).length - 1 - t = j - i - 1 - t := by omega
  simp only [e4]
  rw [cut_get W i j t h (by omega), cut_get W i j (j - i - 1 - t) h (by omega), hq t (by omega)]
  congr 1; omega
/-- The inside of a palindrome is one. -/
theorem pal_in (W : List UInt8) (i j : Nat) (h : j ≤ W.length) (hij : i + 2 ≤ j) (hp : PalL (cut W i j)) : PalL (cut W (i + 1) (j - 1)) := by
 rw [pal_cut_iff W i j h (by omega)] at hp
 rw [pal_cut_iff W (i + 1) (j - 1) (by omega) (by omega)]
 intro t ht
 have := hp (t + 1) (by omega)
 have e1 : i + 1 + t = i + (t + 1) := by omega
 have e2 : j - 1 - 1 - t = j - 1 - (t + 1) := by omega
 simp only [e1, e2]
 exact this
/-- A palindrome that ends a palindrome begins it. -/
theorem pal_front (W : List UInt8) (a b j : Nat) (h : j ≤ W.length) (hab : a ≤ b) (hbj : b ≤ j) (hA : PalL (cut W a j)) (hB : PalL (cut W b j)) : cut W a (a + (j - b)) = cut W b j := by
 rw [pal_cut_iff W a j h (by omega)] at hA
 rw [pal_cut_iff W b j h (by omega)] at hB
 refine List.ext_getElem (by rw [cut_len _ _ _ (by omega), cut_len _ _ _ h]; omega) fun t h1 h2 => ?_
 rw [cut_len _ _ _ h] at h2
 rw [cut_get W a (a + (j - b)) t (by omega) (by omega), cut_get W b j t h h2, hA t (by omega), hB t h2]

/-! ### at most one palindrome more at each end -/
/-- A list of letters ends at a place. -/
def endsAt (W u : List UInt8) (j : Nat) : Prop := u.length ≤ j ∧ j ≤ W.length ∧ cut W (j - u.length) j = u
theorem least_nat {P : Nat → Prop} : ∀ n, P n → ∃ m, P m ∧ ∀ i, i < m → ¬ P i := by
 intro n
 induction n using Nat.strongRecOn with
 | ind n ih =>
  intro h
  by_cases c : ∃ m, m < n ∧ P m
  ·
   obtain ⟨m, h1, h2⟩ := c; exact ih m h1 h2
  ·
   exact ⟨n, h, fun i hi hp => c ⟨i, hi, hp⟩⟩
theorem ends_inj {W u v : List UInt8} {j : Nat} (hu : PalL u) (hv : PalL v) (h1 : endsAt W u j) (h2 : endsAt W v j) (m1 : ∀ i, i < j → ¬ endsAt W u i) (m2 : ∀ i, i < j → ¬ endsAt W v i) (hl : u.length ≤ v.length) : u = v := by
 obtain ⟨a1, a2, a3⟩ := h1
 obtain ⟨b1, b2, b3⟩ := h2
 by_cases e : u.length = v.length
 ·
  rw [← a3, ← b3, e]
 ·
  exfalso
  rw [← a3] at hu
  rw [← b3] at hv
  have hf := pal_front W (j - v.length) (j - u.length) j a2 (by omega) (by omega) hv hu
  rw [a3, show j - (j - u.length) = u.length by omega] at hf
  exact m1 (j - v.length + u.length) (by omega) ⟨by omega, by omega, by rw [show j - v.length + u.length - u.length = j - v.length by omega]; exact hf⟩
theorem nodup_len : ∀ (n : Nat) (l : List Nat), l.Nodup → (∀ x ∈ l, x < n) → l.length ≤ n
 | 0, l, _, h => by
  cases l with
  | nil => simp
  | cons x l => exact absurd (h x (by simp)) (by omega)
 | n + 1, l, hd, h => by
  by_cases c : n ∈ l
  ·
   have h1 := nodup_len n (l.erase n) (hd.sublist List.erase_sublist) (fun x hx => by
    have h2 := h x (List.mem_of_mem_erase hx)
    have h3 : x ≠ n := fun e => by subst e; exact (List.Nodup.not_mem_erase hd) hx
    omega)
   rw [List.length_erase_of_mem c] at h1
   omega
  ·
   have := nodup_len n l hd (fun x hx => by
    have h2 := h x hx
    have h3 : x ≠ n := fun e => by subst e; exact c hx
    omega)
   omega
theorem few_pals (W : List UInt8) (L : List (List UInt8)) (hd : L.Nodup) (h : ∀ u ∈ L, PalL u ∧ 0 < u.length ∧ ∃ j, endsAt W u j) : L.length ≤ W.length := by
 have hex : ∀ u : List UInt8, ∃ e : Nat, u ∈ L → endsAt W u e ∧ ∀ i, i < e → ¬ endsAt W u i := fun u => by
  by_cases c : u ∈ L
  ·
   obtain ⟨_, _, j, hj⟩ := h u c
   obtain ⟨m, h1, h2⟩ := least_nat (P := endsAt W u) j hj
   exact ⟨m, fun _ => ⟨h1, h2⟩⟩
  ·
   exact ⟨0, fun g => absurd g c⟩
 obtain ⟨f, hf⟩ := Classical.axiomOfChoice hex
 have hn : (L.map fun u => f u - 1).Nodup := by
  show List.Pairwise _ _
  rw [List.pairwise_map]
  refine List.Pairwise.imp_of_mem ?_ hd
  intro u v hu hv hne he
  obtain ⟨p1, l1, _⟩ := h u hu
  obtain ⟨p2, l2, _⟩ := h v hv
  obtain ⟨e1, m1⟩ := hf u hu
  obtain ⟨e2, m2⟩ := hf v hv
  have hE : f u = f v := by have := e1.1; have := e2.1; omega
  rw [← hE] at e2 m2
  rcases Nat.le_total u.length v.length with g | g
  ·
   exact hne (ends_inj p1 p2 e1 e2 m1 m2 g)
  ·
   exact hne (ends_inj p2 p1 e2 e1 m2 m1 g).symm
 have := nodup_len W.length _ hn (fun x hx => by
  obtain ⟨u, hu, rfl⟩ := List.mem_map.1 hx
  obtain ⟨_, l1, _⟩ := h u hu
  obtain ⟨e1, _⟩ := hf u hu
  have := e1.1
  have := e1.2.1
  omega)
 rwa [List.length_map] at this

/-! ### all palindromes of a word -/
theorem mem_palsFrom (w u : ByteArray) : ∀ d m, u ∈ palsFrom w d m ↔ m ≤ u.size ∧ u.size < m + d ∧ isPal u = true ∧ ∃ j, j + u.size ≤ w.size ∧ u = w.extract j (j + u.size)
 | 0, m => by simp [palsFrom]; omega
 | d + 1, m => by
  rw [palsFrom, List.mem_append, mem_palsFrom w u d (m + 1)]
  have hp : u ∈ pals w m ↔ u.size = m ∧ isPal u = true ∧ ∃ j, j + u.size ≤ w.size ∧ u = w.extract j (j + u.size) := by
   unfold pals
   rw [List.mem_filter, mem_fac]
   constructor
   ·
    rintro ⟨⟨j, h1, h2⟩, h3⟩
    have hs : u.size = m := by rw [h2, ByteArray.size_extract]; omega
    exact ⟨hs, h3, j, by omega, by rw [hs]; exact h2⟩
   ·
    rintro ⟨h1, h2, j, h3, h4⟩
    exact ⟨⟨j, by omega, by rw [h1] at h4; exact h4⟩, h2⟩
  rw [hp]
  constructor
  ·
   rintro (⟨h1, h2, h3⟩ | ⟨h1, h2, h3⟩)
   ·
    exact ⟨by omega, by omega, h2, h3⟩
   ·
    exact ⟨by omega, by omega, h3⟩
  ·
   rintro ⟨h1, h2, h3⟩
   by_cases e : u.size = m
   ·
    exact .inl ⟨e, h3⟩
   ·
    exact .inr ⟨by omega, by omega, h3⟩
theorem palsFrom_nodup (w : ByteArray) : ∀ d m, (palsFrom w d m).Nodup
 | 0, m => by simp [palsFrom]
 | d + 1, m => by
  rw [palsFrom]
  refine List.nodup_append.2 ⟨SS_nodup (List.Pairwise.filter _ (fac_SS w m)), palsFrom_nodup w d (m + 1), fun a ha b hb e => ?_⟩
  subst e
  obtain ⟨h1, _⟩ := (mem_palsFrom w a d (m + 1)).1 hb
  obtain ⟨j, h2, h3⟩ := (mem_fac w m a).1 (List.mem_filter.1 ha).1
  have : a.size = m := by rw [h3, ByteArray.size_extract]; omega
  omega
theorem mem_palAll (w u : ByteArray) : u ∈ palAll w ↔ 1 ≤ u.size ∧ isPal u = true ∧ ∃ j, j + u.size ≤ w.size ∧ u = w.extract j (j + u.size) := by
 unfold palAll
 rw [mem_palsFrom]
 constructor
 ·
  rintro ⟨h1, h2, h3⟩; exact ⟨h1, h3⟩
 ·
  rintro ⟨h1, h2, j, h3, h4⟩; exact ⟨h1, by omega, h2, j, h3, h4⟩
theorem palAll_le (w : ByteArray) : (palAll w).length ≤ w.size := by
 have h := few_pals w.toList ((palAll w).map fun u => u.toList) (by
  show List.Pairwise _ _
  rw [List.pairwise_map]
  exact (palsFrom_nodup w _ _).imp fun hne e => hne (ba_inj.1 e)) (fun x hx => by
  obtain ⟨u, hu, rfl⟩ := List.mem_map.1 hx
  obtain ⟨h1, h2, j, h3, h4⟩ := (mem_palAll w u).1 hu
  refine ⟨(isPal_iff u).1 h2, by rw [tl_len]; omega, j + u.size, by rw [tl_len]; omega, by rw [tl_len]; omega, ?_⟩
  rw [tl_len, show j + u.size - u.size = j by omega]
  have e := congrArg ByteArray.toList h4
  rw [tl_extract] at e
  exact e.symm)
 rwa [List.length_map, tl_len] at h

/-! ### the longest palindrome at an end -/
theorem pal_ext (w : ByteArray) (i j : Nat) : isPal (w.extract i j) = true ↔ PalL (cut w.toList i j) := by
 rw [isPal_iff, tl_extract]; rfl
/-- The longest palindrome at the end of the first n letters begins at p. -/
structure EndP (w : ByteArray) (n p : Nat) : Prop where
 le : p < n
 pal : isPal (w.extract p n) = true
 no : ∀ q, q < p → ¬ isPal (w.extract q n) = true
theorem endP_ex (w : ByteArray) (n : Nat) (hn : 1 ≤ n) (hw : n ≤ w.size) : ∃ p, EndP w n p := by
 have hW := tl_len w
 have h1 : isPal (w.extract (n - 1) n) = true := by
  rw [pal_ext, pal_cut_iff _ _ _ (by omega) (by omega)]
  intro t ht
  have e1 : n - 1 + t = n - 1 := by omega
  have e2 : n - 1 - t = n - 1 := by omega
  simp only [e1, e2]
 obtain ⟨p, g1, g2⟩ := least_nat (P := fun p => isPal (w.extract p n) = true) (n - 1) h1
 refine ⟨p, ?_, g1, g2⟩
 rcases Nat.lt_or_ge (n - 1) p with g | g
 ·
  exact absurd h1 (g2 _ g)
 ·
  omega
theorem endP_step {w : ByteArray} {n p q : Nat} (hw : n + 1 ≤ w.size) (h1 : EndP w n p) (h2 : EndP w (n + 1) q) : (n + 1 - q) ≤ (n - p) + 2 := by
 have hW := tl_len w
 have := h1.le
 rcases Nat.lt_or_ge (n + 1 - q) 3 with g | g
 ·
  omega
 ·
  have hp := h2.pal
  rw [pal_ext] at hp
  have hi := pal_in w.toList q (n + 1) (by omega) (by omega) hp
  rw [Nat.add_sub_cancel, ← pal_ext] at hi
  rcases Nat.lt_or_ge (q + 1) p with k | k
  ·
   exact absurd hi (h1.no _ k)
  ·
   omega

end Go.Proofs.Ytfihfeffbhohjaa.PF

namespace Go.Proofs.Ytfihfeffbhohjaa.PF
open Go.RowKit Go.Proofs.YtfihfeffbhohjaaW.PrintWords Go.Proofs.YtfihfeffbhohjaaW.PrintLast Go.Proofs.YtfihfeffbhohjaaW.PrintMore
set_option linter.unusedVariables false
set_option linter.unusedSimpArgs false
set_option maxRecDepth 20000

/-- The first one of the longest palindromes: n letters from i on. -/
structure Lng (w : ByteArray) (n i : Nat) : Prop where
 pos : 1 ≤ n
 le : i + n ≤ w.size
 pal : isPal (w.extract i (i + n)) = true
 first : ∀ j, j < i → ¬ isPal (w.extract j (j + n)) = true
 long : ∀ m, n < m → ∀ j, j + m ≤ w.size → ¬ isPal (w.extract j (j + m)) = true
theorem isPal_one (w : ByteArray) (j : Nat) (h : j + 1 ≤ w.size) : isPal (w.extract j (j + 1)) = true := by
 have hW := tl_len w
 rw [pal_ext, pal_cut_iff _ _ _ (by omega) (by omega)]
 intro t ht
 have e1 : j + t = j := by omega
 have e2 : j + 1 - 1 - t = j := by omega
 simp only [e1, e2]
theorem lng_ex (w : ByteArray) (h : 0 < w.size) : ∃ n i, Lng w n i := by
 obtain ⟨d, ⟨h1, j, h2, h3⟩, h4⟩ := least_nat (P := fun d => d < w.size ∧ ∃ j, j + (w.size - d) ≤ w.size ∧ isPal (w.extract j (j + (w.size - d))) = true) (w.size - 1) ⟨by omega, 0, by omega, by
  rw [show w.size - (w.size - 1) = 1 by omega]; exact isPal_one w 0 (by omega)⟩
 obtain ⟨i, ⟨g1, g2⟩, g3⟩ := least_nat (P := fun i => i + (w.size - d) ≤ w.size ∧ isPal (w.extract i (i + (w.size - d))) = true) j ⟨h2, h3⟩
 refine ⟨w.size - d, i, by omega, g1, g2, fun j hj hp => g3 j hj ⟨by omega, hp⟩, fun m hm j hj hp => ?_⟩
 refine h4 (w.size - m) (by omega) ⟨by omega, j, by omega, ?_⟩
 rw [show w.size - (w.size - m) = m by omega]; exact hp
theorem lng_end_le {w : ByteArray} {n i : Nat} (h : Lng w n i) {m p : Nat} (hm : m ≤ w.size) (hE : EndP w m p) : m - p ≤ n := by
 rcases Nat.lt_or_ge n (m - p) with g | g
 ·
  have := hE.le
  exact absurd (by rw [show p + (m - p) = m by omega]; exact hE.pal) (h.long (m - p) g p (by omega))
 ·
  exact g
theorem lng_end_ge {w : ByteArray} {n i : Nat} (h : Lng w n i) {p : Nat} (hE : EndP w (i + n) p) : n ≤ i + n - p := by
 rcases Nat.lt_or_ge i p with g | g
 ·
  exact absurd h.pal (hE.no i g)
 ·
  omega

/-- How many ends from j on make a palindrome from i on. -/
def cntE (w : ByteArray) (i : Nat) : Nat → Nat → Nat
 | 0, _ => 0
 | d + 1, j => (if isPal (w.extract i j) = true then 1 else 0) + cntE w i d (j + 1)
/-- How many places from i on have palindromes, with all their ends. -/
def cntP' (w : ByteArray) : Nat → Nat → Nat
 | 0, _ => 0
 | d + 1, i => cntE w i (w.size - i) (i + 1) + cntP' w d (i + 1)
theorem cntE_le (w : ByteArray) (i : Nat) : ∀ d j, cntE w i d j ≤ d
 | 0, _ => Nat.le_refl _
 | d + 1, j => by
  have := cntE_le w i d (j + 1)
  unfold cntE; split <;> omega
theorem cntE_ge (w : ByteArray) (i : Nat) (h : i + 1 ≤ w.size) : 1 ≤ cntE w i (w.size - i) (i + 1) := by
 rw [show w.size - i = (w.size - i - 1) + 1 by omega, cntE, if_pos (isPal_one w i h)]; omega
theorem cntP_le (w : ByteArray) : ∀ d i, cntP' w d i ≤ d * w.size
 | 0, _ => by simp [cntP']
 | d + 1, i => by
  have h1 := cntE_le w i (w.size - i) (i + 1)
  have h2 := cntP_le w d (i + 1)
  rw [cntP', Nat.add_mul, Nat.one_mul]; omega
theorem cntP_ge (w : ByteArray) : ∀ d i, i + d = w.size → d ≤ cntP' w d i
 | 0, _, _ => Nat.zero_le _
 | d + 1, i, h => by
  have h1 := cntE_ge w i (by omega)
  have h2 := cntP_ge w d (i + 1) (by omega)
  rw [cntP']; omega

end Go.Proofs.Ytfihfeffbhohjaa.PF

namespace Go.Proofs.Ytfihfeffbhohjaa.PF
open Go.RowKit Go.Proofs.YtfihfeffbhohjaaW.PrintWords Go.Proofs.YtfihfeffbhohjaaW.PrintLast Go.Proofs.YtfihfeffbhohjaaW.PrintMore
set_option linter.unusedVariables false
set_option linter.unusedSimpArgs false
set_option maxRecDepth 20000

theorem isPal_ev (w : ByteArray) (hw : w.size ≤ 100000) : Ev (fun k => spec_IsPalindrome.f k w) (if isW w = true then (isPal w, 0) else (false, 1)) ∧ Ev (fun k => impl_IsPalindrome.f k w) (if isW w = true then (isPal w, 0) else (false, 1)) := by
 unfold spec_IsPalindrome.f impl_IsPalindrome.f impl_always.f
 simp only [wordCode_f, Option.bind_some]
 by_cases h0 : isW w = true
 ·
  have hs := isW_size h0
  have hc : codeW true [w] = 0 := codeW_zero.2 ⟨by simp [h0], rfl⟩
  rw [if_pos h0]
  refine ⟨ev_bnd (l01Is_ev w (by omega)) ?_, ?_⟩
  ·
   simp only [h0, if_true]
   exact ev_bnd ⟨w.size + 1, fun k hk => l04Is_f w (by omega) k (by omega)⟩ (ev_of rfl)
  ·
   simp only [hc, if_true, isPal_f w (by omega), Option.bind_some]; exact ev_of rfl
 ·
  have hc : codeW true [w] = 1 := by simp [codeW, h0]
  rw [if_neg h0]
  refine ⟨ev_bnd (l01Is_ev w (by omega)) ?_, ?_⟩
  ·
   simp only [h0, if_false]; exact ev_of rfl
  ·
   simp only [hc, show ¬ ((1 : Int) = 0) by omega, if_false]; exact ev_of rfl
theorem palsOf_ev (w : ByteArray) (hw : w.size ≤ 100000) : Ev (fun k => spec_PalindromesOf.f k w) (if isW w = true then (palAll w, 0) else ([], 1)) ∧ Ev (fun k => impl_PalindromesOf.f k w) (if isW w = true then (palAll w, 0) else ([], 1)) := by
 unfold spec_PalindromesOf.f impl_PalindromesOf.f impl_always.f
 simp only [wordCode_f, Option.bind_some]
 by_cases h0 : isW w = true
 ·
  have hs := isW_size h0
  have hc : codeW true [w] = 0 := codeW_zero.2 ⟨by simp [h0], rfl⟩
  rw [if_pos h0]
  refine ⟨ev_bnd (l01Is_ev w (by omega)) ?_, ?_⟩
  ·
   simp only [h0, if_true]
   exact ev_bnd ⟨8001, fun k hk => l04All_f w hs k (by omega)⟩ (ev_of rfl)
  ·
   simp only [hc, if_true]
   exact ev_bnd ⟨2001, fun k hk => palindromes_f w hs k (by omega)⟩ (ev_of rfl)
 ·
  have hc : codeW true [w] = 1 := by simp [codeW, h0]
  rw [if_neg h0]
  refine ⟨ev_bnd (l01Is_ev w (by omega)) ?_, ?_⟩
  ·
   simp only [h0, if_false]; exact ev_of rfl
  ·
   simp only [hc, show ¬ ((1 : Int) = 0) by omega, if_false]; exact ev_of rfl
theorem defect_ev (w : ByteArray) (hw : w.size ≤ 100000) : Ev (fun k => spec_DefectOf.f k w) (if isW w = true then ((w.size : Int) - ((palAll w).length : Int), 0) else (0, 1)) ∧ Ev (fun k => impl_DefectOf.f k w) (if isW w = true then ((w.size : Int) - ((palAll w).length : Int), 0) else (0, 1)) := by
 unfold spec_DefectOf.f impl_DefectOf.f impl_always.f
 simp only [wordCode_f, Option.bind_some, impl_size.f]
 by_cases h0 : isW w = true
 ·
  have hs := isW_size h0
  have hc : codeW true [w] = 0 := codeW_zero.2 ⟨by simp [h0], rfl⟩
  have hl := palAll_le w
  have e1 : wrap64 ((w.size : Int) - ((palAll w).length : Int)) = (w.size : Int) - ((palAll w).length : Int) := wrap_id (by omega) (by omega)
  rw [if_pos h0]
  refine ⟨ev_bnd (l01Is_ev w (by omega)) ?_, ?_⟩
  ·
   simp only [h0, if_true]
   refine ev_bnd ⟨8001, fun k hk => l04All_f w hs k (by omega)⟩ ?_
   simp only [e1]; exact ev_of rfl
  ·
   simp only [hc, if_true]
   refine ev_bnd ⟨2001, fun k hk => palindromes_f w hs k (by omega)⟩ ?_
   simp only [e1]; exact ev_of rfl
 ·
  have hc : codeW true [w] = 1 := by simp [codeW, h0]
  rw [if_neg h0]
  refine ⟨ev_bnd (l01Is_ev w (by omega)) ?_, ?_⟩
  ·
   simp only [h0, if_false]; exact ev_of rfl
  ·
   simp only [hc, show ¬ ((1 : Int) = 0) by omega, if_false]; exact ev_of rfl

/-! ### how many places have palindromes -/
theorem cnt_i1 (w : ByteArray) (hw : w.size ≤ 60) (i : Nat) (n : Int) : ∀ (d k j c : Nat), i ≤ j → j + d = w.size + 1 → c + d ≤ 1000000 →
  impl_CountPalindromes.l1 (k + d + 1) w (c : Int) (i : Int) (j : Int) n (i : Int) = impl_CountPalindromes.l0 k w ((c + cntE w i d j : Nat) : Int) n ((i + 1 : Nat) : Int) := by
 intro d
 induction d with
 | zero =>
  intro k j c hij hd hc
  simp only [impl_CountPalindromes.l1]
  rw [if_neg (by omega), wrap_succ (by omega)]; rfl
 | succ d ih =>
  intro k j c hij hd hc
  obtain ⟨q, hq⟩ : ∃ q, q = k + d + 1 := ⟨_, rfl⟩
  rw [show k + (d + 1) + 1 = q + 1 by omega]
  simp only [impl_CountPalindromes.l1]
  rw [if_pos (by omega), if_pos (by omega), if_pos (by omega), Int.toNat_natCast, Int.toNat_natCast, isPal_f _ (by rw [ByteArray.size_extract]; omega), Option.bind_some, wrap_succ (i := c) (by omega), wrap_succ (i := j) (by omega), cntE]
  subst hq
  by_cases g : isPal (w.extract i j) = true
  ·
   rw [if_pos g, if_pos g, ih k (j + 1) (c + 1) (by omega) (by omega) (by omega), Nat.add_assoc]
  ·
   rw [if_neg g, if_neg g, ih k (j + 1) c (by omega) (by omega) (by omega), Nat.zero_add]
theorem cnt_i0 (w : ByteArray) (hw : w.size ≤ 60) : ∀ (d i c : Nat), i + d = w.size → c + d * 61 ≤ 100000 → ∀ k, d * 100 + 100 < k → impl_CountPalindromes.l0 k w (c : Int) (w.size : Int) (i : Int) = some (((c + cntP' w d i : Nat) : Int), 0) := by
 intro d
 induction d with
 | zero =>
  intro i c hd hc k hk
  obtain ⟨k, rfl⟩ : ∃ n, k = n + 1 := ⟨k - 1, by omega⟩
  simp only [impl_CountPalindromes.l0]; rw [if_neg (by omega)]; rfl
 | succ d ih =>
  intro i c hd hc k hk
  obtain ⟨k, rfl⟩ : ∃ n, k = (n + (w.size - i) + 1) + 1 := ⟨k - (w.size - i) - 2, by omega⟩
  have hle := cntE_le w i (w.size - i) (i + 1)
  have h1 := cnt_i1 w hw i (w.size : Int) (w.size - i) k (i + 1) c (by omega) (by omega) (by omega)
  obtain ⟨q, hq⟩ : ∃ q, q = k + (w.size - i) + 1 := ⟨_, rfl⟩
  rw [← hq] at h1 ⊢
  simp only [impl_CountPalindromes.l0]
  rw [if_pos (by omega), wrap_succ (i := i) (by omega), h1, ih (i + 1) _ (by omega) (by omega) k (by omega), cntP', Nat.add_assoc]
theorem cnt_s1 (w : ByteArray) (hw : w.size ≤ 60) (i : Nat) : ∀ (d k j c : Nat), i ≤ j → j + d = w.size + 1 → c + d ≤ 1000000 → 100 < k →
  spec_CountPalindromes.l1 (k + d + 1) w (c : Int) (i : Int) (j : Int) = spec_CountPalindromes.l0 k w ((c + cntE w i d j : Nat) : Int) ((i + 1 : Nat) : Int) := by
 intro d
 induction d with
 | zero =>
  intro k j c hij hd hc hk
  simp only [spec_CountPalindromes.l1]
  rw [if_neg (by omega), wrap_succ (by omega)]; rfl
 | succ d ih =>
  intro k j c hij hd hc hk
  obtain ⟨q, hq⟩ : ∃ q, q = k + d + 1 := ⟨_, rfl⟩
  have hz : (w.extract i j).size ≤ 60 := by rw [ByteArray.size_extract]; omega
  rw [show k + (d + 1) + 1 = q + 1 by omega]
  simp only [spec_CountPalindromes.l1]
  rw [if_pos (by omega), if_pos (by omega), if_pos (by omega), Int.toNat_natCast, Int.toNat_natCast, l04Is_f _ (by omega) q (by omega), Option.bind_some, wrap_succ (i := c) (by omega), wrap_succ (i := j) (by omega), cntE]
  subst hq
  by_cases g : isPal (w.extract i j) = true
  ·
   rw [if_pos g, if_pos g, ih k (j + 1) (c + 1) (by omega) (by omega) (by omega) hk, Nat.add_assoc]
  ·
   rw [if_neg g, if_neg g, ih k (j + 1) c (by omega) (by omega) (by omega) hk, Nat.zero_add]
theorem cnt_s0 (w : ByteArray) (hw : w.size ≤ 60) : ∀ (d i c : Nat), i + d = w.size → c + d * 61 ≤ 100000 → ∀ k, d * 100 + 300 < k → spec_CountPalindromes.l0 k w (c : Int) (i : Int) = some (((c + cntP' w d i : Nat) : Int), 0) := by
 intro d
 induction d with
 | zero =>
  intro i c hd hc k hk
  obtain ⟨k, rfl⟩ : ∃ n, k = n + 1 := ⟨k - 1, by omega⟩
  simp only [spec_CountPalindromes.l0]; rw [if_neg (by omega)]; rfl
 | succ d ih =>
  intro i c hd hc k hk
  obtain ⟨k, rfl⟩ : ∃ n, k = (n + (w.size - i) + 1) + 1 := ⟨k - (w.size - i) - 2, by omega⟩
  have hle := cntE_le w i (w.size - i) (i + 1)
  have h1 := cnt_s1 w hw i (w.size - i) k (i + 1) c (by omega) (by omega) (by omega) (by omega)
  obtain ⟨q, hq⟩ : ∃ q, q = k + (w.size - i) + 1 := ⟨_, rfl⟩
  rw [← hq] at h1 ⊢
  simp only [spec_CountPalindromes.l0]
  rw [if_pos (by omega), wrap_succ (i := i) (by omega), h1, ih (i + 1) _ (by omega) (by omega) k (by omega), cntP', Nat.add_assoc]
theorem count_ev (w : ByteArray) (hw : w.size ≤ 100000) : Ev (fun k => spec_CountPalindromes.f k w) (if isW w = true then ((cntP' w w.size 0 : Int), 0) else (0, 1)) ∧ Ev (fun k => impl_CountPalindromes.f k w) (if isW w = true then ((cntP' w w.size 0 : Int), 0) else (0, 1)) := by
 unfold spec_CountPalindromes.f impl_CountPalindromes.f impl_always.f
 simp only [wordCode_f, Option.bind_some]
 by_cases h0 : isW w = true
 ·
  have hs := isW_size h0
  have hc : codeW true [w] = 0 := codeW_zero.2 ⟨by simp [h0], rfl⟩
  have g1 := cnt_s0 w hs w.size 0 0 (by omega) (by omega)
  have g2 := cnt_i0 w hs w.size 0 0 (by omega) (by omega)
  rw [Nat.zero_add] at g1 g2
  rw [if_pos h0]
  refine ⟨ev_bnd (l01Is_ev w (by omega)) ?_, ?_⟩
  ·
   simp only [h0, if_true]; exact ⟨10000, fun k hk => g1 k (by omega)⟩
  ·
   simp only [hc, if_true]; exact ⟨10000, fun k hk => g2 k (by omega)⟩
 ·
  have hc : codeW true [w] = 1 := by simp [codeW, h0]
  rw [if_neg h0]
  refine ⟨ev_bnd (l01Is_ev w (by omega)) ?_, ?_⟩
  ·
   simp only [h0, if_false]; exact ev_of rfl
  ·
   simp only [hc, show ¬ ((1 : Int) = 0) by omega, if_false]; exact ev_of rfl

/-! ### the ends -/
theorem ending_loop (a : ByteArray) (ha : a.size ≤ 1000) (p : Nat) (hp : p ≤ a.size) (hpp : isPal (a.extract p a.size) = true) (hq : ∀ q, q < p → ¬ isPal (a.extract q a.size) = true) : ∀ (d k i : Nat), i + d = p → d < k → impl_ending.l0 k a (i : Int) = some ((a.size - p : Nat) : Int) := by
 intro d
 induction d with
 | zero =>
  intro k i hi hk
  obtain ⟨k, rfl⟩ : ∃ m, k = m + 1 := ⟨k - 1, by omega⟩
  have e : i = p := by omega
  subst e
  simp only [impl_ending.l0]
  rw [if_pos (by omega), if_pos (by omega), Int.toNat_natCast, isPal_f _ (by rw [ByteArray.size_extract]; omega), Option.bind_some, if_pos hpp, wrap_id (by omega) (by omega)]
  congr 1; omega
 | succ d ih =>
  intro k i hi hk
  obtain ⟨k, rfl⟩ : ∃ m, k = m + 1 := ⟨k - 1, by omega⟩
  simp only [impl_ending.l0]
  rw [if_pos (by omega), if_pos (by omega), Int.toNat_natCast, isPal_f _ (by rw [ByteArray.size_extract]; omega), Option.bind_some, if_neg (hq i (by omega)), wrap_succ (by omega), ih k (i + 1) (by omega) (by omega)]
theorem l04End_loop (a : ByteArray) (ha : a.size ≤ 1000) (p : Nat) (hp : p < a.size) (hpp : isPal (a.extract p a.size) = true) (hq : ∀ q, q < p → ¬ isPal (a.extract q a.size) = true) : ∀ (d k i : Nat), i + d = p → d + 2000 < k → spec_l04End.l0 k a (i : Int) = some ((a.size - p : Nat) : Int) := by
 intro d
 induction d with
 | zero =>
  intro k i hi hk
  obtain ⟨k, rfl⟩ : ∃ m, k = m + 1 := ⟨k - 1, by omega⟩
  have e : i = p := by omega
  subst e
  have hsz : (a.extract i a.size).size ≤ 1000 := by rw [ByteArray.size_extract]; omega
  simp only [spec_l04End.l0]
  rw [if_pos (by omega), if_pos (by omega), if_pos (by omega), Int.toNat_natCast, l04Is_f _ (by omega) k (by omega), Option.bind_some, if_pos hpp, wrap_id (by omega) (by omega)]
  congr 1; omega
 | succ d ih =>
  intro k i hi hk
  obtain ⟨k, rfl⟩ : ∃ m, k = m + 1 := ⟨k - 1, by omega⟩
  have hsz : (a.extract i a.size).size ≤ 1000 := by rw [ByteArray.size_extract]; omega
  simp only [spec_l04End.l0]
  rw [if_pos (by omega), if_pos (by omega), if_pos (by omega), Int.toNat_natCast, l04Is_f _ (by omega) k (by omega), Option.bind_some, if_neg (hq i (by omega)), wrap_succ (by omega), ih k (i + 1) (by omega) (by omega)]
/-- How long the longest palindromes at the ends are. -/
def EndsL (w : ByteArray) (l : List Int) : Prop := ∀ n, (h : n < l.length) → ∃ p, EndP w (n + 1) p ∧ l[n] = ((n + 1 - p : Nat) : Int)
theorem pre_pre (w : ByteArray) (n q : Nat) (hn : n ≤ w.size) : (w.extract 0 n).extract q n = w.extract q n := by
 rw [ByteArray.extract_extract]; congr 1 <;> omega
theorem end_f (w : ByteArray) (hw : w.size ≤ 60) {n p : Nat} (hn : n ≤ w.size) (h : EndP w n p) (k : Nat) (hk : 2100 < k) : impl_ending.f k (w.extract 0 n) = some ((n - p : Nat) : Int) ∧ spec_l04End.f k (w.extract 0 n) = some ((n - p : Nat) : Int) := by
 have hz : (w.extract 0 n).size = n := by rw [ByteArray.size_extract]; omega
 have hp := h.le
 have h1 : isPal ((w.extract 0 n).extract p (w.extract 0 n).size) = true := by rw [hz, pre_pre w n p hn]; exact h.pal
 have h2 : ∀ q, q < p → ¬ isPal ((w.extract 0 n).extract q (w.extract 0 n).size) = true := fun q hq => by rw [hz, pre_pre w n q hn]; exact h.no q hq
 have e1 := ending_loop (w.extract 0 n) (by omega) p (by omega) h1 h2 p k 0 (by omega) (by omega)
 have e2 := l04End_loop (w.extract 0 n) (by omega) p (by omega) h1 h2 p k 0 (by omega) (by omega)
 rw [hz] at e1 e2
 exact ⟨e1, e2⟩
theorem ends_loop4 (w : ByteArray) (hw : w.size ≤ 60) : ∀ (d i : Nat) (acc : List Int), i + d = w.size → acc.length = i → EndsL w acc →
  ∃ r, r.length = w.size ∧ EndsL w r ∧ (∀ k, 2200 + d < k → spec_EndLengths.l0 k w acc ((i + 1 : Nat) : Int) = some (r, 0)) ∧ (∀ k, 2200 + d < k → impl_EndLengths.l0 k w acc (w.size : Int) (i : Int) = some (r, 0)) := by
 intro d
 induction d with
 | zero =>
  intro i acc hd ha hE
  refine ⟨acc, by omega, hE, fun k hk => ?_, fun k hk => ?_⟩
  ·
   obtain ⟨k, rfl⟩ : ∃ n, k = n + 1 := ⟨k - 1, by omega⟩
   simp only [spec_EndLengths.l0]; rw [if_neg (by omega)]
  ·
   obtain ⟨k, rfl⟩ : ∃ n, k = n + 1 := ⟨k - 1, by omega⟩
   simp only [impl_EndLengths.l0]; rw [if_neg (by omega)]
 | succ d ih =>
  intro i acc hd ha hE
  obtain ⟨p, hp⟩ := endP_ex w (i + 1) (by omega) (by omega)
  obtain ⟨r, r1, r2, r3, r4⟩ := ih (i + 1) (acc ++ [((i + 1 - p : Nat) : Int)]) (by omega) (by simp [ha]) (fun n hn => by
   rw [List.length_append, List.length_singleton] at hn
   by_cases e : n < acc.length
   ·
    rw [List.getElem_append_left e]; exact hE n e
   ·
    obtain rfl : n = i := by omega
    refine ⟨p, hp, ?_⟩
    rw [List.getElem_append_right (by omega)]; simp [ha])
  refine ⟨r, r1, r2, fun k hk => ?_, fun k hk => ?_⟩
  ·
   obtain ⟨k, rfl⟩ : ∃ n, k = n + 1 := ⟨k - 1, by omega⟩
   simp only [spec_EndLengths.l0]
   rw [if_pos (by omega), if_pos (by omega), Int.toNat_natCast, (end_f w hw (by omega) hp k (by omega)).2, Option.bind_some, if_pos (by omega), wrap_succ (by omega)]
   exact r3 k (by omega)
  ·
   obtain ⟨k, rfl⟩ : ∃ n, k = n + 1 := ⟨k - 1, by omega⟩
   simp only [impl_EndLengths.l0]
   rw [if_pos (by omega), wrap_succ (by omega), if_pos (by omega), if_pos (by omega), Int.toNat_natCast, (end_f w hw (by omega) hp k (by omega)).1, Option.bind_some, if_pos (by omega)]
   exact r4 k (by omega)
theorem ends_ev (w : ByteArray) (hw : w.size ≤ 100000) : ∃ r : List Int × Int, r.1.length ≤ 1000 ∧ (isW w = true → r.2 = 0 ∧ r.1.length = w.size ∧ EndsL w r.1) ∧ Ev (fun k => spec_EndLengths.f k w) r ∧ Ev (fun k => impl_EndLengths.f k w) r := by
 unfold spec_EndLengths.f impl_EndLengths.f impl_always.f
 simp only [wordCode_f, Option.bind_some]
 by_cases h0 : isW w = true
 ·
  have hs := isW_size h0
  have hc : codeW true [w] = 0 := codeW_zero.2 ⟨by simp [h0], rfl⟩
  obtain ⟨r, r1, r2, r3, r4⟩ := ends_loop4 w hs w.size 0 [] (by omega) rfl (fun n hn => absurd hn (by simp))
  refine ⟨(r, 0), by show r.length ≤ _; omega, fun _ => ⟨rfl, r1, r2⟩, ev_bnd (l01Is_ev w (by omega)) ?_, ?_⟩
  ·
   simp only [h0, if_true]; exact ⟨3000, fun k hk => r3 k (by omega)⟩
  ·
   simp only [hc, if_true]; exact ⟨3000, fun k hk => r4 k (by omega)⟩
 ·
  have hc : codeW true [w] = 1 := by simp [codeW, h0]
  refine ⟨([], 1), by simp, fun h => absurd h h0, ev_bnd (l01Is_ev w (by omega)) ?_, ?_⟩
  ·
   simp only [h0, if_false]; exact ev_of rfl
  ·
   simp only [hc, show ¬ ((1 : Int) = 0) by omega, if_false]; exact ev_of rfl

/-! ### the longest -/
theorem lg_i1 (w : ByteArray) (hw : w.size ≤ 60) {n i : Nat} (h : Lng w n i) (m : Nat) (hm : n ≤ m) (hmw : m ≤ w.size) (R : ByteArray × Int × Int) (K : Nat) (hR : n < m → ∀ k, K < k → impl_LongestPalindrome.l0 k w ((m - 1 : Nat) : Int) = some R) (hE : n = m → R = (w.extract i (i + n), (i : Int), 0)) :
  ∀ (d j : Nat), j + d = w.size + 1 - m → (n = m → j ≤ i) → ∀ k, K + d + 1 < k → impl_LongestPalindrome.l1 k w (m : Int) (j : Int) = some R := by
 have hp := h.pos
 have hle := h.le
 intro d
 induction d with
 | zero =>
  intro j hd hj k hk
  obtain ⟨k, rfl⟩ : ∃ n, k = n + 1 := ⟨k - 1, by omega⟩
  have hlt : n < m := by
   rcases Nat.lt_or_ge n m with g | g
   ·
    exact g
   ·
    have := hj (by omega); omega
  simp only [impl_LongestPalindrome.l1]
  rw [wrap_nat (n := j + m) (by omega) (by omega), if_neg (by omega), wrap_nat (x := (m : Int) - 1) (n := m - 1) (by omega) (by omega)]
  exact hR hlt k (by omega)
 | succ d ih =>
  intro j hd hj k hk
  obtain ⟨k, rfl⟩ : ∃ n, k = n + 1 := ⟨k - 1, by omega⟩
  simp only [impl_LongestPalindrome.l1]
  rw [wrap_nat (x := (j : Int) + (m : Int)) (n := j + m) (by omega) (by omega), if_pos (by omega), if_pos (by omega), if_pos (by omega), Int.toNat_natCast, Int.toNat_natCast, isPal_f _ (by rw [ByteArray.size_extract]; omega), Option.bind_some, wrap_succ (i := j) (by omega)]
  by_cases e : n = m ∧ j = i
  ·
   obtain ⟨rfl, rfl⟩ := e
   rw [if_pos h.pal, hE rfl]
  ·
   have hno : ¬ isPal (w.extract j (j + m)) = true := by
    rcases Nat.lt_or_ge n m with g | g
    ·
     exact h.long m g j (by omega)
    ·
     have hm' : n = m := by omega
     have := hj hm'
     have hji : j < i := by
      rcases Nat.lt_or_ge j i with q | q
      ·
       exact q
      ·
       exact absurd ⟨hm', by omega⟩ e
     rw [← hm']; exact h.first j hji
   rw [if_neg hno]
   refine ih (j + 1) (by omega) (fun g => ?_) k (by omega)
   have := hj g
   rcases Nat.lt_or_ge j i with q | q
   ·
    omega
   ·
    exact absurd ⟨g, by omega⟩ e
theorem lg_i0 (w : ByteArray) (hw : w.size ≤ 60) {n i : Nat} (h : Lng w n i) : ∀ (e m : Nat), m = n + e → m ≤ w.size → ∀ k, (e + 1) * 100 < k → impl_LongestPalindrome.l0 k w (m : Int) = some (w.extract i (i + n), (i : Int), 0) := by
 intro e
 induction e with
 | zero =>
  intro m hm hmw k hk
  obtain ⟨k, rfl⟩ : ∃ n, k = n + 1 := ⟨k - 1, by omega⟩
  simp only [impl_LongestPalindrome.l0]
  exact lg_i1 w hw h m (by omega) hmw _ 0 (fun g => by omega) (fun _ => rfl) (w.size + 1 - m) 0 (by omega) (fun _ => Nat.zero_le _) k (by omega)
 | succ e ih =>
  intro m hm hmw k hk
  obtain ⟨k, rfl⟩ : ∃ n, k = n + 1 := ⟨k - 1, by omega⟩
  simp only [impl_LongestPalindrome.l0]
  refine lg_i1 w hw h m (by omega) hmw _ ((e + 1) * 100) (fun _ k hk => ih (m - 1) (by omega) (by omega) k hk) (fun g => by omega) (w.size + 1 - m) 0 (by omega) (fun _ => Nat.zero_le _) k (by omega)
theorem lg_s1 (w : ByteArray) (hw : w.size ≤ 60) {n i : Nat} (h : Lng w n i) (m : Nat) (hm : n ≤ m) (hmw : m ≤ w.size) (R : ByteArray × Int × Int) (K : Nat) (hR : n < m → ∀ k, K < k → spec_LongestPalindrome.l0 k w ((m - 1 : Nat) : Int) = some R) (hE : n = m → R = (w.extract i (i + n), (i : Int), 0)) :
  ∀ (d j : Nat), j + d = w.size + 1 - m → (n = m → j ≤ i) → ∀ k, K + d + 100 < k → spec_LongestPalindrome.l1 k w (m : Int) (j : Int) = some R := by
 have hp := h.pos
 have hle := h.le
 intro d
 induction d with
 | zero =>
  intro j hd hj k hk
  obtain ⟨k, rfl⟩ : ∃ n, k = n + 1 := ⟨k - 1, by omega⟩
  have hlt : n < m := by
   rcases Nat.lt_or_ge n m with g | g
   ·
    exact g
   ·
    have := hj (by omega); omega
  simp only [spec_LongestPalindrome.l1]
  rw [wrap_nat (n := j + m) (by omega) (by omega), if_neg (by omega), wrap_nat (x := (m : Int) - 1) (n := m - 1) (by omega) (by omega)]
  exact hR hlt k (by omega)
 | succ d ih =>
  intro j hd hj k hk
  obtain ⟨k, rfl⟩ : ∃ n, k = n + 1 := ⟨k - 1, by omega⟩
  have hz : (w.extract j (j + m)).size ≤ 60 := by rw [ByteArray.size_extract]; omega
  simp only [spec_LongestPalindrome.l1]
  rw [wrap_nat (x := (j : Int) + (m : Int)) (n := j + m) (by omega) (by omega), if_pos (by omega), if_pos (by omega), if_pos (by omega), Int.toNat_natCast, Int.toNat_natCast, l04Is_f _ (by omega) k (by omega), Option.bind_some, wrap_succ (i := j) (by omega)]
  by_cases e : n = m ∧ j = i
  ·
   obtain ⟨rfl, rfl⟩ := e
   rw [if_pos h.pal, hE rfl]
  ·
   have hno : ¬ isPal (w.extract j (j + m)) = true := by
    rcases Nat.lt_or_ge n m with g | g
    ·
     exact h.long m g j (by omega)
    ·
     have hm' : n = m := by omega
     have := hj hm'
     have hji : j < i := by
      rcases Nat.lt_or_ge j i with q | q
      ·
       exact q
      ·
       exact absurd ⟨hm', by omega⟩ e
     rw [← hm']; exact h.first j hji
   rw [if_neg hno]
   refine ih (j + 1) (by omega) (fun g => ?_) k (by omega)
   have := hj g
   rcases Nat.lt_or_ge j i with q | q
   ·
    omega
   ·
    exact absurd ⟨g, by omega⟩ e
theorem lg_s0 (w : ByteArray) (hw : w.size ≤ 60) {n i : Nat} (h : Lng w n i) : ∀ (e m : Nat), m = n + e → m ≤ w.size → ∀ k, (e + 1) * 300 < k → spec_LongestPalindrome.l0 k w (m : Int) = some (w.extract i (i + n), (i : Int), 0) := by
 have hp := h.pos
 intro e
 induction e with
 | zero =>
  intro m hm hmw k hk
  obtain ⟨k, rfl⟩ : ∃ n, k = n + 1 := ⟨k - 1, by omega⟩
  simp only [spec_LongestPalindrome.l0]
  by_cases g : (m : Int) > 1
  ·
   rw [if_pos g]
   exact lg_s1 w hw h m (by omega) hmw _ 0 (fun g => by omega) (fun _ => rfl) (w.size + 1 - m) 0 (by omega) (fun _ => Nat.zero_le _) k (by omega)
  ·
   have hn : n = 1 := by omega
   have hi : i = 0 := by
    rcases Nat.eq_zero_or_pos i with q | q
    ·
     exact q
    ·
     exact absurd (by rw [hn]; exact isPal_one w 0 (by omega)) (h.first 0 q)
   rw [if_neg g, if_pos (by omega), if_pos (by omega), hn, hi]; rfl
 | succ e ih =>
  intro m hm hmw k hk
  obtain ⟨k, rfl⟩ : ∃ n, k = n + 1 := ⟨k - 1, by omega⟩
  simp only [spec_LongestPalindrome.l0]
  rw [if_pos (by omega)]
  refine lg_s1 w hw h m (by omega) hmw _ ((e + 1) * 300) (fun _ k hk => ih (m - 1) (by omega) (by omega) k hk) (fun g => by omega) (w.size + 1 - m) 0 (by omega) (fun _ => Nat.zero_le _) k (by omega)
theorem longest_ev (w : ByteArray) (hw : w.size ≤ 100000) : ∃ r : ByteArray × Int × Int, (isW w = true → 0 < w.size → ∃ n i, Lng w n i ∧ r = (w.extract i (i + n), (i : Int), 0)) ∧ (isW w = false → r.2.2 = 1) ∧ Ev (fun k => spec_LongestPalindrome.f k w) r ∧ Ev (fun k => impl_LongestPalindrome.f k w) r := by
 unfold spec_LongestPalindrome.f impl_LongestPalindrome.f spec_l02Given.f impl_filledCode.f impl_always.f
 simp only [wordCode_f, Option.bind_some]
 have hl := l01Is_ev w (by omega)
 by_cases h0 : isW w = true
 ·
  have hs := isW_size h0
  have hc : codeW true [w] = 0 := codeW_zero.2 ⟨by simp [h0], rfl⟩
  rw [h0] at hl
  by_cases hz : w.size = 0
  ·
   have he : w.toList = ([] : List UInt8) := List.eq_nil_of_length_eq_zero (by rw [tl_len]; exact hz)
   refine ⟨(⟨#[]⟩, 0, 5), fun _ h => by omega, fun h => (by rw [h0] at h; cases h), ev_bnd (a := (5 : Int)) (ev_bnd hl (by simp only [if_true, he]; exact ev_of rfl)) ?_, ?_⟩
   ·
    simp only [show ¬ ((5 : Int) = 0) by omega, if_false]; exact ev_of rfl
   ·
    simp only [hc, if_true, he, Option.bind_some, show ¬ ((5 : Int) = 0) by omega, if_false]; exact ev_of rfl
  ·
   have he : ¬ w.toList = ([] : List UInt8) := fun e => by have := tl_len w; rw [e] at this; simp at this; omega
   obtain ⟨n, i, h⟩ := lng_ex w (by omega)
   have hle := h.le
   have g1 := lg_s0 w hs h (w.size - n) w.size (by omega) (by omega)
   have g2 := lg_i0 w hs h (w.size - n) w.size (by omega) (by omega)
   refine ⟨(w.extract i (i + n), (i : Int), 0), fun _ _ => ⟨n, i, h, rfl⟩, fun h => (by rw [h0] at h; cases h), ev_bnd (a := (0 : Int)) (ev_bnd hl (by simp only [if_true, he, if_false]; exact ev_of rfl)) ?_, ?_⟩
   ·
    simp only [if_true]; exact ⟨30000, fun k hk => g1 k (by omega)⟩
   ·
    simp only [hc, if_true, he, if_false, Option.bind_some]; exact ⟨30000, fun k hk => g2 k (by omega)⟩
 ·
  have hc : codeW true [w] = 1 := by simp [codeW, h0]
  have h0' : isW w = false := by simpa using h0
  rw [h0'] at hl
  refine ⟨(⟨#[]⟩, 0, 1), fun h => absurd h h0, fun _ => rfl, ev_bnd (a := (1 : Int)) (ev_bnd hl (by simp only [Bool.false_eq_true, if_false]; exact ev_of rfl)) ?_, ?_⟩
  ·
   simp only [show ¬ ((1 : Int) = 0) by omega, if_false]; exact ev_of rfl
  ·
   simp only [hc, show ¬ ((1 : Int) = 0) by omega, if_false, Option.bind_some]; exact ev_of rfl

end Go.Proofs.Ytfihfeffbhohjaa.PF

namespace Go.Proofs.Ytfihfeffbhohjaa.PF
open Go.RowKit Go.Proofs.YtfihfeffbhohjaaW.PrintWords Go.Proofs.YtfihfeffbhohjaaW.PrintLast Go.Proofs.YtfihfeffbhohjaaW.PrintMore
set_option linter.unusedVariables false
set_option linter.unusedSimpArgs false

theorem ba_toList_inj {a b : ByteArray} : (a.toList = b.toList) = (a = b) := propext ba_inj

theorem hasPrefix_f (a b : ByteArray) (ha : a.size ≤ 9000000000000000000) : strings_HasPrefix.f a b = some (decide (b.size ≤ a.size ∧ a.extract 0 b.size = b)) := by
 unfold strings_HasPrefix.f stringslite_HasPrefix.f
 by_cases h : b.size ≤ a.size
 ·
  simp only [show (a.size : Int) ≥ (b.size : Int) by omega, show (0 : Int) ≤ (b.size : Int) by omega, if_true, show (b.size : Int) ≤ (a.size : Int) by omega, Int.toNat_natCast, Option.bind_some, h, true_and]
  rw [Bool.beq_eq_decide_eq]
  simp only [ba_toList_inj]
 ·
  simp only [show ¬ (a.size : Int) ≥ (b.size : Int) by omega, if_false, Option.bind_some, h, false_and, decide_false]

theorem hasPrefix_at (w v : ByteArray) (i : Nat) (hi : i ≤ w.size) (hw : w.size ≤ 9000000000000000000) : strings_HasPrefix.f (w.extract i w.size) v = some (decide (i + v.size ≤ w.size ∧ w.extract i (i + v.size) = v)) := by
 rw [hasPrefix_f _ _ (by rw [ByteArray.size_extract]; omega)]
 congr 1
 rw [decide_eq_decide, ByteArray.size_extract, ByteArray.extract_extract]
 constructor
 ·
  rintro ⟨h1, h2⟩
  have : i + v.size ≤ w.size := by omega
  refine ⟨this, ?_⟩
  rwa [Nat.add_zero, Nat.min_eq_left this] at h2
 ·
  rintro ⟨h1, h2⟩
  refine ⟨by omega, ?_⟩
  rwa [Nat.add_zero, Nat.min_eq_left h1]

/-- The places from i on. -/
def plcs (w v : ByteArray) : Nat → Nat → List Int
 | 0, _ => []
 | d + 1, i => if i + v.size ≤ w.size ∧ w.extract i (i + v.size) = v then (i : Int) :: plcs w v d (i + 1) else plcs w v d (i + 1)
def places (w v : ByteArray) : List Int := plcs w v (w.size + 1) 0

theorem plcs_nil (w v : ByteArray) : ∀ d i, w.size < i + v.size → plcs w v d i = []
 | 0, _, _ => rfl
 | d + 1, i, h => by rw [plcs, if_neg (fun c => by omega), plcs_nil w v d (i + 1) (by omega)]
theorem plcs_length (w v : ByteArray) : ∀ d i, (plcs w v d i).length ≤ d
 | 0, _ => Nat.le_refl _
 | d + 1, i => by
  have := plcs_length w v d (i + 1)
  rw [plcs]; split
  ·
   rw [List.length_cons]; omega
  ·
   omega
theorem plcs_mem (w v : ByteArray) (x : Int) : ∀ d i, x ∈ plcs w v d i → ∃ j : Nat, x = j ∧ i ≤ j ∧ j + v.size ≤ w.size ∧ w.extract j (j + v.size) = v
 | 0, _, h => by cases h
 | d + 1, i, h => by
  rw [plcs] at h
  split at h
  ·
   rename_i c
   rcases List.mem_cons.1 h with e | h
   ·
    exact ⟨i, e, Nat.le_refl _, c.1, c.2⟩
   ·
    obtain ⟨j, h1, h2, h3⟩ := plcs_mem w v x d (i + 1) h
    exact ⟨j, h1, by omega, h3⟩
  ·
   obtain ⟨j, h1, h2, h3⟩ := plcs_mem w v x d (i + 1) h
   exact ⟨j, h1, by omega, h3⟩
theorem plcs_sorted (w v : ByteArray) : ∀ d i, (plcs w v d i).Pairwise (· < ·)
 | 0, _ => List.Pairwise.nil
 | d + 1, i => by
  rw [plcs]; split
  ·
   refine List.pairwise_cons.2 ⟨fun y hy => ?_, plcs_sorted w v d (i + 1)⟩
   obtain ⟨j, h1, h2, _⟩ := plcs_mem w v y d (i + 1) hy
   omega
  ·
   exact plcs_sorted w v d (i + 1)

theorem places_length (w v : ByteArray) : (places w v).length ≤ w.size + 1 := plcs_length w v _ _

theorem impl_places_loop (w v : ByteArray) (hw : w.size ≤ 60) (hv : v.size ≤ 60) : ∀ (d k i : Nat) (acc : List Int), i + d = w.size + 1 → acc.length ≤ i → d < k →
  impl_places.l0 k w v acc ((w.size : Int) + 1) (i : Int) = some (acc ++ plcs w v d i) := by
 intro d
 induction d with
 | zero =>
  intro k i acc hd ha hk
  obtain ⟨k, rfl⟩ : ∃ n, k = n + 1 := ⟨k - 1, by omega⟩
  simp only [impl_places.l0]
  rw [if_neg (by omega)]
  simp [plcs]
 | succ d ih =>
  intro k i acc hd ha hk
  obtain ⟨k, rfl⟩ : ∃ n, k = n + 1 := ⟨k - 1, by omega⟩
  simp only [impl_places.l0]
  rw [if_pos (by omega), if_pos (by omega), if_pos (by omega), wrap_succ (by omega), Int.toNat_natCast, hasPrefix_at w v i (by omega) (by omega)]
  simp only [Option.bind_some, decide_eq_true_eq]
  by_cases c : i + v.size ≤ w.size ∧ w.extract i (i + v.size) = v
  ·
   rw [if_pos c, if_pos (by omega), ih k (i + 1) _ (by omega) (by simp; omega) (by omega), plcs, if_pos c]
   simp
  ·
   rw [if_neg c, ih k (i + 1) _ (by omega) (by omega) (by omega), plcs, if_neg c]

theorem impl_places_ev (w v : ByteArray) (hw : w.size ≤ 60) (hv : v.size ≤ 60) : Ev (fun k => impl_places.f k w v) (places w v) :=
 ⟨w.size + 2, fun k hk => by
  have h := impl_places_loop w v hw hv (w.size + 1) k 0 [] (by omega) (by simp) (by omega)
  show impl_places.f k w v = _
  unfold impl_places.f
  rw [wrap_id (by omega) (by omega)]
  exact h⟩

end Go.Proofs.Ytfihfeffbhohjaa.PF
