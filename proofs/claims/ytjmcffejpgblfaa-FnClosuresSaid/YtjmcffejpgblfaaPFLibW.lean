/- Plain facts on words: order, sorted lists of words, what the tests of words come to. -/
import Derived.Test.YtjmcffejpgblfaaPFGivB
import Derived.Test.YtjmcffejpgblfaaPFx3
import Derived.Test.YtjmcffejpgblfaaPFGivR
import Derived.Test.YtjmcffejpgblfaaPFx6
import Derived.Test.YtjmcffejpgblfaaPFx0
import Derived.Test.YtjmcffejpgblfaaPFx9
import Derived.Test.YtjmcffejpgblfaaPFx5
import Derived.Test.YtjmcffejpgblfaaPFx11
import Derived.Test.YtjmcffejpgblfaaPFx4
import Derived.Test.YtjmcffejpgblfaaPFGivP
import Derived.Test.YtjmcffejpgblfaaPFx10
import Derived.Test.YtjmcffejpgblfaaPFGivDW
import Derived.Test.YtjmcffejpgblfaaPFx7
import Derived.Test.YtjmcffejpgblfaaPFx8
namespace Go.Proofs.Ytjmcffejpgblfaa.PF
open Go.RowKit Go.Proofs.YtjmcffejpgblfaaW.PrintWords Go.Proofs.YtjmcffejpgblfaaW.PrintLast Go.Proofs.YtjmcffejpgblfaaW.PrintMore
set_option linter.unusedVariables false
set_option linter.unusedSimpArgs false

theorem wrap_id {x : Int} (h0 : -9223372036854775808 ≤ x) (h1 : x ≤ 9223372036854775807) : wrap64 x = x := by
 unfold wrap64; omega

/-! ### order -/
theorem less_iff : ∀ a b : List UInt8, Op.bytesLess a b = true ↔ a < b
 | [], [] => by simp [Op.bytesLess]
 | [], b :: y => by simp [Op.bytesLess]
 | a :: x, [] => by simp [Op.bytesLess]
 | a :: x, b :: y => by
  rw [List.cons_lt_cons_iff, ← less_iff x y]
  simp [Op.bytesLess]

theorem toList_eq (a : ByteArray) : a.toList = a.data.toList := ByteArray.toList_eq a
theorem ba_ext {a b : ByteArray} (h : a.data.toList = b.data.toList) : a = b := ByteArray.ext (Array.toList_inj.1 h)
theorem ba_inj {a b : ByteArray} : a.toList = b.toList ↔ a = b := ⟨fun h => ba_ext (by rw [← toList_eq, ← toList_eq]; exact h), fun h => by rw [h]⟩
theorem ba_mk (a : ByteArray) : (⟨a.data.toList.toArray⟩ : ByteArray) = a := by cases a; simp

/-- Words strictly in order. -/
def SS (l : List ByteArray) : Prop := l.Pairwise fun a b => a.toList < b.toList

theorem SS_uniq : ∀ {l l' : List ByteArray}, SS l → SS l' → (∀ x, x ∈ l ↔ x ∈ l') → l = l'
 | [], [], _, _, _ => rfl
 | [], b :: l', _, _, h => by have := (h b).2 (by simp); simp at this
 | a :: l, [], _, _, h => by have := (h a).1 (by simp); simp at this
 | a :: l, b :: l', h1, h2, h => by
  obtain ⟨h1a, h1b⟩ := List.pairwise_cons.1 h1
  obtain ⟨h2a, h2b⟩ := List.pairwise_cons.1 h2
  have hab : a = b := by
   rcases List.mem_cons.1 ((h a).1 (by simp)) with e | hm
   ·
    exact e
   ·
    rcases List.mem_cons.1 ((h b).2 (by simp)) with e | hm2
    ·
     exact e.symm
    ·
     exact absurd (List.lt_trans (h1a b hm2) (h2a a hm)) (List.lt_irrefl _)
  subst hab
  refine congrArg _ (SS_uniq h1b h2b fun x => ⟨fun hx => ?_, fun hx => ?_⟩)
  ·
   rcases List.mem_cons.1 ((h x).1 (by simp [hx])) with e | hm
   ·
    subst e; exact absurd (h1a x hx) (List.lt_irrefl _)
   ·
    exact hm
  ·
   rcases List.mem_cons.1 ((h x).2 (by simp [hx])) with e | hm
   ·
    subst e; exact absurd (h2a x hx) (List.lt_irrefl _)
   ·
    exact hm

theorem SS_nodup {l : List ByteArray} (h : SS l) : l.Nodup := h.imp fun hab e => by subst e; exact absurd hab (List.lt_irrefl _)

/-! ### sorted lists -/
theorem mem_compact (zs : List (List UInt8)) (y : List UInt8) : y ∈ Lib.compact zs ↔ y ∈ zs := by
 unfold Lib.compact Lib.compactUpTo
 simp only [List.mem_map, List.mem_filter, List.mem_range]
 constructor
 ·
  rintro ⟨j, ⟨hj, _⟩, rfl⟩
  simp [hj]
 ·
  intro hy
  obtain ⟨j, hj, hjy⟩ := List.getElem_of_mem hy
  have key : ∀ n, ∀ j, j ≤ n → (hj : j < zs.length) → zs[j] = y → ∃ a, (a < zs.length ∧ Lib.keeps zs.toArray a = true) ∧ zs.toArray[a]! = y := by
   intro n
   induction n with
   | zero =>
    intro j hn hj hjy
    obtain rfl : j = 0 := by omega
    exact ⟨0, ⟨hj, Lib.keeps_lt_one _ 0 (by omega)⟩, by simp [hj, hjy]⟩
   | succ n ih =>
    intro j hn hj hjy
    by_cases hk : Lib.keeps zs.toArray j = true
    ·
     exact ⟨j, ⟨hj, hk⟩, by simp [hj, hjy]⟩
    ·
     have hj0 : j ≠ 0 := fun e => hk (by rw [e]; exact Lib.keeps_lt_one _ 0 (by omega))
     have he : zs.toArray[j]! = zs.toArray[j - 1]! := by
      by_cases he : zs.toArray[j]! = zs.toArray[j - 1]!
      ·
       exact he
      ·
       exact absurd (Lib.keeps_pos he) hk
     have hj1 : j - 1 < zs.length := by omega
     refine ih (j - 1) (by omega) hj1 ?_
     simp [hj, hj1] at he
     rw [← he]; exact hjy
  exact key j j (Nat.le_refl _) hj hjy

theorem compact_lt {zs : List (List UInt8)} (h : zs.Pairwise (· ≤ ·)) : (Lib.compact zs).Pairwise (· < ·) := by
 unfold Lib.compact Lib.compactUpTo
 rw [List.pairwise_map]
 refine List.Pairwise.imp_of_mem ?_ (List.Pairwise.filter _ List.pairwise_lt_range)
 intro i j hi hj hij
 obtain ⟨hi1, hi2⟩ := List.mem_filter.1 hi
 obtain ⟨hj1, hj2⟩ := List.mem_filter.1 hj
 simp only [List.mem_range] at hi1 hj1
 have hne : zs.toArray[j]! ≠ zs.toArray[j - 1]! := by
  intro e
  rw [Lib.keeps_neg (by omega) e] at hj2
  cases hj2
 have hj3 : j - 1 < zs.length := by omega
 have hle : ∀ a b (ha : a < zs.length) (hb : b < zs.length), a ≤ b → zs[a] ≤ zs[b] := by
  intro a b ha hb hab
  rcases Nat.lt_or_ge a b with hlt | hge
  ·
   exact List.pairwise_iff_getElem.1 h a b ha hb hlt
  ·
   obtain rfl : a = b := by omega
   exact List.le_refl _
 have h1 := hle i (j - 1) hi1 hj3 (by omega)
 have h2 := hle (j - 1) j hj3 hj1 (by omega)
 simp [hi1, hj1, hj3] at hne ⊢
 exact List.lt_of_le_of_lt h1 (Std.lt_of_le_of_ne h2 (fun e => hne e.symm))

/-- The words of a list, in order, each once. -/
def canon (l : List ByteArray) : List ByteArray := (sortedL (l.map fun b => b.data.toList)).map fun x => ⟨x.toArray⟩

theorem canon_SS (l : List ByteArray) : SS (canon l) := by
 unfold SS canon sortedL
 rw [List.pairwise_map]
 have h := List.pairwise_mergeSort (le := fun x y : List UInt8 => decide (x ≤ y)) (fun a b c h1 h2 => by simp only [decide_eq_true_eq] at *; exact List.le_trans h1 h2)
  (fun a b => by rcases List.le_total a b with h | h <;> simp [h]) (l.map fun b => b.data.toList)
 simp only [decide_eq_true_eq] at h
 exact (compact_lt h).imp fun hab => by rw [toList_eq, toList_eq]; exact hab

theorem mem_canon (l : List ByteArray) (x : ByteArray) : x ∈ canon l ↔ x ∈ l := by
 unfold canon sortedL
 simp only [List.mem_map, mem_compact, List.mem_mergeSort]
 constructor
 ·
  rintro ⟨_, ⟨a, ha, rfl⟩, rfl⟩; rw [ba_mk]; exact ha
 ·
  intro hx; exact ⟨_, ⟨x, hx, rfl⟩, ba_mk x⟩

theorem canon_eq {l r : List ByteArray} (h : SS r) (hm : ∀ x, x ∈ r ↔ x ∈ l) : r = canon l := SS_uniq h (canon_SS l) fun x => by rw [hm, mem_canon]

theorem canon_length_le (l : List ByteArray) : (canon l).length ≤ l.length := by
 unfold canon sortedL
 rw [List.length_map]
 have := Lib.compact_length_le ((l.map fun b => b.data.toList).mergeSort fun x y => decide (x ≤ y))
 rw [List.length_mergeSort, List.length_map] at this
 exact this

theorem sorted_f {l : List ByteArray} (h : l.length < 4611686018427387904) : impl_sorted.f l = some (canon l) := by
 unfold impl_sorted.f; rw [if_pos h]; rfl

/-! ### tests of words -/
theorem drop_bytes (a : ByteArray) (i : Nat) (h : i < a.size) : (bytesOf a).drop i = bt a (i : Int) :: (bytesOf a).drop (i + 1) := by
 rw [rd_drop _ i (by rw [bytesOf_length]; exact h), rd_bytesOf]

theorem is_loop (a : ByteArray) (ha : a.size ≤ 9000000000000000000) : ∀ (d k i : Nat), i + d = a.size → d < k → spec_l01Is.l0 k a (i : Int) = some (decide (a.size ≤ 60) && ((bytesOf a).drop i).all isLet) := by
 intro d
 induction d with
 | zero =>
  intro k i hd hk
  obtain ⟨k, rfl⟩ : ∃ m, k = m + 1 := ⟨k - 1, by omega⟩
  simp only [spec_l01Is.l0]
  rw [if_neg (by omega), List.drop_eq_nil_of_le (by rw [bytesOf_length]; omega)]
  simp
  omega
 | succ d ih =>
  intro k i hd hk
  obtain ⟨k, rfl⟩ : ∃ m, k = m + 1 := ⟨k - 1, by omega⟩
  simp only [spec_l01Is.l0]
  rw [if_pos (by omega), if_pos (by omega), drop_bytes a i (by omega)]
  simp only [List.all_cons, isLet]
  by_cases h1 : bt a (i : Int) < 97
  ·
   rw [if_pos h1, decide_eq_false (by omega : ¬ 97 ≤ bt a (i : Int))]; simp
  ·
   rw [if_neg h1]
   by_cases h2 : bt a (i : Int) > 101
   ·
    rw [if_pos h2, decide_eq_false (by omega : ¬ bt a (i : Int) < 102)]; simp
   ·
    rw [if_neg h2, decide_eq_true (by omega : 97 ≤ bt a (i : Int)), decide_eq_true (by omega : bt a (i : Int) < 102), wrap_id (by omega) (by omega)]
    rw [show (i : Int) + 1 = ((i + 1 : Nat) : Int) from rfl, ih k (i + 1) (by omega) (by omega)]
    simp [isLet]

theorem l01Is_ev (a : ByteArray) (ha : a.size ≤ 9000000000000000000) : Ev (fun k => spec_l01Is.f k a) (isW a) :=
 ⟨a.size + 1, fun k hk => by
  have h := is_loop a ha a.size k 0 (by omega) (by omega)
  exact h⟩

theorem isW_size {a : ByteArray} (h : isW a = true) : a.size ≤ 60 := by
 simp only [isW, Bool.and_eq_true, decide_eq_true_eq] at h; exact h.1

/-- The code of words with a range. -/
def codeW (b : Bool) (l : List ByteArray) : Int := if l.all isW = true then (if b = true then 0 else 2) else 1
theorem wordCode_f (k : Nat) (b : Bool) (l : List ByteArray) : impl_wordCode.f k (some b) l = some (codeW b l) := by
 unfold impl_wordCode.f codeW
 split
 ·
  simp only [Option.bind_some]; split <;> rfl
 ·
  rfl

end Go.Proofs.Ytjmcffejpgblfaa.PF

namespace Go.Proofs.Ytjmcffejpgblfaa.PF
open Go.RowKit Go.Proofs.YtjmcffejpgblfaaW.PrintWords Go.Proofs.YtjmcffejpgblfaaW.PrintLast Go.Proofs.YtjmcffejpgblfaaW.PrintMore
set_option linter.unusedVariables false
set_option linter.unusedSimpArgs false

theorem ev_bnd {α β : Type} {g : Nat → Option α} {f : Nat → α → Option β} {a : α} {r : β} (h1 : Ev g a) (h2 : Ev (fun k => f k a) r) : Ev (fun k => (g k).bind (f k)) r := by
 obtain ⟨K1, h1⟩ := h1
 obtain ⟨K2, h2⟩ := h2
 exact ⟨K1 + K2, fun k hk => by show (g k).bind (f k) = some r; rw [h1 k (by omega)]; exact h2 k (by omega)⟩
theorem ev_of {α : Type} {c : Option α} {r : α} (h : c = some r) : Ev (fun _ => c) r := ⟨0, fun _ _ => h⟩
theorem ev_suc {α : Type} {g : Nat → Option α} {r : α} (h : Ev (fun k => g (k + 1)) r) : Ev g r := by
 obtain ⟨K, h⟩ := h
 exact ⟨K + 1, fun k hk => by obtain ⟨k, rfl⟩ : ∃ n, k = n + 1 := ⟨k - 1, by omega⟩; exact h k (by omega)⟩
theorem ev_get {α : Type} {g : Nat → Option α} {r : α} (h : Ev g r) : ∃ k, g k = some r := by obtain ⟨K, h⟩ := h; exact ⟨K, h K (Nat.le_refl _)⟩
theorem ev_congr {α : Type} {g : Nat → Option α} {r r' : α} (h : Ev g r) (e : r = r') : Ev g r' := e ▸ h

theorem bne_false {α : Type} [BEq α] [ReflBEq α] (a : α) : (a != a) = false := by simp [bne]

theorem wrap_nat {x : Int} {n : Nat} (h : x = n) (hn : n ≤ 4611686018427387904) : wrap64 x = (n : Int) := by rw [h, wrap_id (by omega) (by omega)]
theorem wrap_succ {i : Nat} (hn : i < 4611686018427387904) : wrap64 ((i : Int) + 1) = ((i + 1 : Nat) : Int) := wrap_nat (n := i + 1) (by omega) (by omega)
theorem rd_nat (l : List Int) (i : Nat) (h : i < l.length) : rd l (i : Int) = l[i] := by simp [rd, h]
theorem rdOf_nat {α : Type} (d : α) (l : List α) (i : Nat) (h : i < l.length) : rdOf d l (i : Int) = l[i] := by simp [rdOf, h]

end Go.Proofs.Ytjmcffejpgblfaa.PF

namespace Go.Proofs.Ytjmcffejpgblfaa.PF
open Go.RowKit Go.Proofs.YtjmcffejpgblfaaW.PrintWords Go.Proofs.YtjmcffejpgblfaaW.PrintLast Go.Proofs.YtjmcffejpgblfaaW.PrintMore
set_option linter.unusedVariables false
set_option linter.unusedSimpArgs false

theorem codeW_zero {b : Bool} {l : List ByteArray} : codeW b l = 0 ↔ l.all isW = true ∧ b = true := by
 unfold codeW
 by_cases h : l.all isW = true <;> cases b <;> simp [h]

theorem sz_word {w : ByteArray} {l : List ByteArray} {b : Bool} (h : codeW b (w :: l) = 0) : w.size ≤ 60 := by
 have := (codeW_zero.1 h).1
 simp only [List.all_cons, Bool.and_eq_true] at this
 exact isW_size this.1
theorem sz_word2 {w v : ByteArray} {l : List ByteArray} {b : Bool} (h : codeW b (w :: v :: l) = 0) : v.size ≤ 60 := by
 have := (codeW_zero.1 h).1
 simp only [List.all_cons, Bool.and_eq_true] at this
 exact isW_size this.2.1
theorem codeW_le {b : Bool} {l : List ByteArray} : codeW b l = 0 ∨ codeW b l = 1 ∨ codeW b l = 2 := by unfold codeW; split <;> (try split) <;> simp

end Go.Proofs.Ytjmcffejpgblfaa.PF

namespace Go.Proofs.Ytjmcffejpgblfaa.PF
open Go.RowKit Go.Proofs.YtjmcffejpgblfaaW.PrintWords Go.Proofs.YtjmcffejpgblfaaW.PrintLast Go.Proofs.YtjmcffejpgblfaaW.PrintMore
set_option linter.unusedVariables false
set_option linter.unusedSimpArgs false

def isPal (a : ByteArray) : Bool := decide (a.toList = a.toList.reverse)

theorem rev_toList (a : ByteArray) : (rev a).toList = a.toList.reverse := by
 rw [toList_eq, toList_eq]
 simp only [rev, strOfNums, bytesOf]
 rw [← List.map_reverse, List.map_map]
 have h : ((fun n : Int => UInt8.ofNat n.toNat) ∘ fun b : UInt8 => (b.toNat : Int)) = id := funext fun b => by simp
 rw [h, List.map_id]

theorem isPal_f (a : ByteArray) (ha : a.size ≤ 1000000) : impl_isPalindrome.f a = some (isPal a) := by
 unfold impl_isPalindrome.f impl_reversed.f
 rw [if_pos (by omega)]
 simp only [Option.bind_some, rev_toList]
 rw [isPal]
 congr 1
 by_cases h : a.toList = a.toList.reverse
 ·
  rw [decide_eq_true h]; exact beq_iff_eq.2 h
 ·
  rw [decide_eq_false h]; exact beq_eq_false_iff_ne.2 h

theorem pal_loop (a : ByteArray) (ha : a.size ≤ 1000000) : ∀ (d k i : Nat), a.size ≤ i + d → i ≤ a.size → d < k → ∃ b, spec_l04Is.l0 k a (i : Int) ((a.size : Int) - 1 - i) = some b ∧ (b = true ↔ ∀ t : Nat, i ≤ t → 2 * t + 1 < a.size → bt a (t : Int) = bt a ((a.size - 1 - t : Nat) : Int)) := by
 intro d
 induction d with
 | zero =>
  intro k i hd hi hk
  obtain ⟨k, rfl⟩ : ∃ n, k = n + 1 := ⟨k - 1, by omega⟩
  refine ⟨true, ?_, ⟨fun _ t h1 h2 => by omega, fun _ => rfl⟩⟩
  simp only [spec_l04Is.l0]; rw [if_neg (by omega)]
 | succ d ih =>
  intro k i hd hi hk
  obtain ⟨k, rfl⟩ : ∃ n, k = n + 1 := ⟨k - 1, by omega⟩
  by_cases h : 2 * i + 1 < a.size
  ·
   obtain ⟨b, h1, h2⟩ := ih k (i + 1) (by omega) (by omega) (by omega)
   have hj : ((a.size : Int) - 1 - i) = ((a.size - 1 - i : Nat) : Int) := by omega
   by_cases c : bt a (i : Int) = bt a ((a.size - 1 - i : Nat) : Int)
   ·
    refine ⟨b, ?_, ?_⟩
    ·
     simp only [spec_l04Is.l0]
     rw [if_pos (by omega), if_pos (by omega), if_pos (by omega), if_pos (by omega), if_pos (by omega), hj, if_pos c, wrap_succ (by omega), wrap_id (x := ((a.size - 1 - i : Nat) : Int) - 1) (by omega) (by omega), ← h1]
     congr 1; omega
    ·
     rw [h2]
     constructor
     ·
      intro g t ht1 ht2
      by_cases e : t = i
      ·
       subst e; exact c
      ·
       exact g t (by omega) ht2
     ·
      exact fun g t ht1 ht2 => g t (by omega) ht2
   ·
    refine ⟨false, ?_, ⟨fun g => (by cases g), fun g => absurd (g i (Nat.le_refl _) h) c⟩⟩
    simp only [spec_l04Is.l0]
    rw [if_pos (by omega), if_pos (by omega), if_pos (by omega), if_pos (by omega), if_pos (by omega), hj, if_neg c]
  ·
   refine ⟨true, ?_, ⟨fun _ t h1 h2 => by omega, fun _ => rfl⟩⟩
   simp only [spec_l04Is.l0]; rw [if_neg (by omega)]

theorem bt_eq (a : ByteArray) (t : Nat) (h : t < a.toList.length) : bt a (t : Int) = ((a.toList[t]).toNat : Int) := by
 have h' : t < a.size := by rw [toList_eq, Array.length_toList] at h; exact h
 simp only [bt, Int.toNat_natCast, h', dite_true]
 congr 2
 simp only [toList_eq, Array.getElem_toList]; rfl

theorem l04Is_f (a : ByteArray) (ha : a.size ≤ 1000000) (k : Nat) (hk : a.size < k) : spec_l04Is.f k a = some (isPal a) := by
 obtain ⟨b, h1, h2⟩ := pal_loop a ha a.size k 0 (by omega) (by omega) hk
 unfold spec_l04Is.f
 rw [wrap_id (by omega) (by omega), show (a.size : Int) - 1 = (a.size : Int) - 1 - ((0 : Nat) : Int) by omega, show (0 : Int) = ((0 : Nat) : Int) from rfl, h1]
 congr 1
 have hl : a.toList.length = a.size := by rw [toList_eq, Array.length_toList]; rfl
 rw [Bool.eq_iff_iff, h2, isPal, decide_eq_true_eq]
 constructor
 ·
  intro g
  refine List.ext_getElem (by simp) fun t ht1 ht2 => ?_
  rw [List.getElem_reverse]
  have key : ∀ t : Nat, 2 * t + 1 < a.size → ∀ (x : t < a.toList.length) (y : a.size - 1 - t < a.toList.length), a.toList[t] = a.toList[a.size - 1 - t] := fun t h x y => by
   have := g t (Nat.zero_le _) h
   rw [bt_eq a t x, bt_eq a _ y] at this
   exact UInt8.toNat_inj.1 (by omega)
  have e : a.toList.length - 1 - t = a.size - 1 - t := by omega
  simp only [e]
  rcases Nat.lt_trichotomy (2 * t + 1) a.size with h | h | h
  ·
   exact key t h _ _
  ·
   congr 1; omega
  ·
   have := key (a.size - 1 - t) (by omega) (by omega) (by omega)
   rw [this]; congr 1; omega
 ·
  intro g t _ ht
  have x : t < a.toList.length := by omega
  have y : a.size - 1 - t < a.toList.length := by omega
  rw [bt_eq a t x, bt_eq a _ y]
  have e : a.toList[t] = a.toList.reverse[t]'(by simp; omega) := by congr 1
  rw [e, List.getElem_reverse]
  congr 2
  simp only [hl]

end Go.Proofs.Ytjmcffejpgblfaa.PF

namespace Go.Proofs.Ytjmcffejpgblfaa.PF
open Go.RowKit Go.Proofs.YtjmcffejpgblfaaW.PrintWords Go.Proofs.YtjmcffejpgblfaaW.PrintLast Go.Proofs.YtjmcffejpgblfaaW.PrintMore
set_option linter.unusedVariables false
set_option linter.unusedSimpArgs false

theorem rdOf_get {α : Type} (d : α) (l : List α) (i : Nat) (h : i < l.length) : rdOf d l (i : Int) = l[i] := by
 simp [rdOf, h]

/-- The reference's insertion: from place n down; what lies from n on is greater. -/
theorem put_loop (l : List ByteArray) (x : ByteArray) (hS : SS l) (hl : l.length < 4000000000000) : ∀ (n k : Nat), n ≤ l.length → n < k → (∀ j (hj : j < l.length), n ≤ j → x.toList < l[j].toList) →
  ∃ r, spec_l01Put.l0 k l x (n : Int) = some r ∧ SS r ∧ (∀ y, y ∈ r ↔ y ∈ l ∨ y = x) := by
 intro n
 induction n with
 | zero =>
  intro k hn hk hgt
  obtain ⟨k, rfl⟩ : ∃ m, k = m + 1 := ⟨k - 1, by omega⟩
  refine ⟨x :: l, ?_, ?_, ?_⟩
  ·
   simp only [spec_l01Put.l0]
   rw [if_neg (by omega)]
   try simp only [Option.bind_some]
   rw [if_pos (by omega), if_pos (by omega)]
   simp only [Int.toNat_natCast, List.take_zero, List.drop_zero, List.nil_append, List.length_nil, List.length_singleton]
   rw [if_pos (by omega)]
   try simp only [Option.bind_some]
   rw [if_pos (by omega)]
   simp only [Option.bind_some, List.singleton_append]
   rw [if_pos (by first | omega | (simp; omega))]
  ·
   refine List.pairwise_cons.2 ⟨fun y hy => ?_, hS⟩
   obtain ⟨j, hj, rfl⟩ := List.getElem_of_mem hy
   exact hgt j hj (by omega)
  ·
   intro y; simp [or_comm]
 | succ n ih =>
  intro k hn hk hgt
  obtain ⟨k, rfl⟩ : ∃ m, k = m + 1 := ⟨k - 1, by omega⟩
  have hw : wrap64 (((n + 1 : Nat) : Int) - 1) = (n : Int) := by rw [wrap_id (by omega) (by omega)]; omega
  simp only [spec_l01Put.l0, hw]
  rw [if_pos (by omega), if_pos (by omega), if_pos (by omega), rdOf_get _ _ n (by omega)]
  by_cases h1 : Op.bytesLess x.toList l[n].toList = true
  ·
   rw [if_pos h1]
   refine ih k (by omega) (by omega) ?_
   intro j hj hnj
   by_cases e : j = n
   ·
    subst e; exact (less_iff _ _).1 h1
   ·
    exact hgt j hj (by omega)
  ·
   rw [if_neg h1]
   by_cases h2 : l[n].toList = x.toList
   ·
    rw [if_pos h2]
    have hx := ba_inj.1 h2
    exact ⟨l, rfl, hS, fun y => ⟨.inl, fun h => h.elim id (fun e => by rw [e, ← hx]; exact List.getElem_mem _)⟩⟩
   ·
    rw [if_neg h2]
    have hlt : l[n].toList < x.toList := by
     have : ¬ x.toList < l[n].toList := fun h => h1 ((less_iff _ _).2 h)
     exact Std.lt_of_le_of_ne this h2
    refine ⟨l.take (n + 1) ++ [x] ++ l.drop (n + 1), ?_, ?_, ?_⟩
    ·
     simp only [Option.bind_some]
     rw [if_pos (by omega), if_pos (by omega)]
     simp only [Int.toNat_natCast, List.nil_append, List.length_nil, Nat.zero_add]
     rw [if_pos (by rw [List.length_take]; omega)]
     try simp only [Option.bind_some]
     rw [if_pos (by rw [List.length_take]; omega)]
     try simp only [Option.bind_some]
     rw [if_pos (by simp only [List.length_append, List.length_take, List.length_singleton, List.length_drop]; omega)]
    ·
     have htd : SS (l.take (n + 1) ++ l.drop (n + 1)) := by rw [List.take_append_drop]; exact hS
     obtain ⟨p1, p2, p3⟩ := List.pairwise_append.1 htd
     unfold SS
     rw [List.append_assoc]
     refine List.pairwise_append.2 ⟨p1, ?_, ?_⟩
     ·
      rw [List.singleton_append]
      refine List.pairwise_cons.2 ⟨fun y hy => ?_, p2⟩
      obtain ⟨j, hj, rfl⟩ := List.getElem_of_mem hy
      rw [List.getElem_drop]
      rw [List.length_drop] at hj
      exact hgt (n + 1 + j) (by omega) (by omega)
     ·
      intro a ha b hb
      have hax : a.toList < x.toList := by
       obtain ⟨j, hj, rfl⟩ := List.getElem_of_mem ha
       rw [List.length_take] at hj
       rw [List.getElem_take]
       by_cases e : j = n
       ·
        subst e; exact hlt
       ·
        exact List.lt_trans (List.pairwise_iff_getElem.1 hS j n (by omega) (by omega) (by omega)) hlt
      rcases List.mem_append.1 hb with hb | hb
      ·
       obtain rfl := List.mem_singleton.1 hb; exact hax
      ·
       exact p3 a ha b hb
    ·
     intro y
     have : y ∈ l ↔ y ∈ l.take (n + 1) ∨ y ∈ l.drop (n + 1) := by rw [← List.mem_append, List.take_append_drop]
     rw [this]
     simp only [List.mem_append, List.mem_singleton]
     constructor
     ·
      rintro ((h | h) | h)
      ·
       exact .inl (.inl h)
      ·
       exact .inr h
      ·
       exact .inl (.inr h)
     ·
      rintro ((h | h) | h)
      ·
       exact .inl (.inl h)
      ·
       exact .inr h
      ·
       exact .inl (.inr h)

theorem put_ev (l : List ByteArray) (x : ByteArray) (hl : l.length < 4000000000000) : ∀ k, l.length < k → spec_l01Put.f k (canon l) x = some (canon (l ++ [x])) := by
 intro k hk
 have hle := canon_length_le l
 obtain ⟨r, h1, h2, h3⟩ := put_loop (canon l) x (canon_SS l) (by omega) (canon l).length k (Nat.le_refl _) (by omega) (fun j hj hn => by omega)
 unfold spec_l01Put.f
 rw [h1, canon_eq h2 (l := l ++ [x]) (fun y => by rw [h3, mem_canon]; simp)]

/-- The factors of a length, place by place, from place i on. -/
def fcsFrom (w : ByteArray) (m : Nat) : Nat → Nat → List ByteArray
 | 0, _ => []
 | d + 1, i => w.extract i (i + m) :: fcsFrom w m d (i + 1)
/-- How many places a factor of a length has. -/
def plc (w : ByteArray) (m : Nat) : Nat := w.size + 1 - m
def fcs (w : ByteArray) (m : Nat) : List ByteArray := fcsFrom w m (plc w m) 0
/-- The different factors of a length, in order. -/
def fac (w : ByteArray) (m : Nat) : List ByteArray := canon (fcs w m)

theorem fcsFrom_length (w : ByteArray) (m : Nat) : ∀ d i, (fcsFrom w m d i).length = d
 | 0, _ => rfl
 | d + 1, i => by rw [fcsFrom, List.length_cons, fcsFrom_length w m d]

theorem mem_fcsFrom (w : ByteArray) (m : Nat) (x : ByteArray) : ∀ d i, x ∈ fcsFrom w m d i ↔ ∃ j, i ≤ j ∧ j < i + d ∧ x = w.extract j (j + m)
 | 0, i => by simp [fcsFrom]; intro j h1 h2; omega
 | d + 1, i => by
  rw [fcsFrom, List.mem_cons, mem_fcsFrom w m x d (i + 1)]
  constructor
  ·
   rintro (h | ⟨j, h1, h2, h3⟩)
   ·
    exact ⟨i, by omega, by omega, h⟩
   ·
    exact ⟨j, by omega, by omega, h3⟩
  ·
   rintro ⟨j, h1, h2, h3⟩
   by_cases e : j = i
   ·
    subst e; exact .inl h3
   ·
    exact .inr ⟨j, by omega, by omega, h3⟩

theorem mem_fac (w : ByteArray) (m : Nat) (x : ByteArray) : x ∈ fac w m ↔ ∃ j, j + m ≤ w.size ∧ x = w.extract j (j + m) := by
 unfold fac fcs plc
 rw [mem_canon, mem_fcsFrom]
 constructor
 ·
  rintro ⟨j, _, h2, h3⟩; exact ⟨j, by omega, h3⟩
 ·
  rintro ⟨j, h2, h3⟩; exact ⟨j, by omega, by omega, h3⟩

theorem fac_SS (w : ByteArray) (m : Nat) : SS (fac w m) := canon_SS _
theorem fac_length_le (w : ByteArray) (m : Nat) : (fac w m).length ≤ w.size + 1 - m := by
 have := canon_length_le (fcs w m); unfold fcs at this; rw [fcsFrom_length] at this; exact this

theorem extract_size (w : ByteArray) {i j : Nat} (h1 : i ≤ j) (h2 : j ≤ w.size) : (w.extract i j).size = j - i := by
 rw [ByteArray.size_extract]; omega

theorem impl_factors_loop (w : ByteArray) (m : Nat) (hw : w.size ≤ 1000000) (hm : m ≤ 1000000) : ∀ (d k i : Nat) (acc : List ByteArray), i + d = plc w m → acc.length = i → d < k →
  impl_factors.l0 k w (m : Int) acc (i : Int) = some (canon (acc ++ fcsFrom w m d i)) := by
 intro d
 induction d with
 | zero =>
  intro k i acc hd ha hk
  obtain ⟨k, rfl⟩ : ∃ n, k = n + 1 := ⟨k - 1, by omega⟩
  unfold plc at hd
  simp only [impl_factors.l0]
  rw [wrap_id (by omega) (by omega), if_neg (by omega), sorted_f (by omega)]
  simp [fcsFrom]
 | succ d ih =>
  intro k i acc hd ha hk
  obtain ⟨k, rfl⟩ : ∃ n, k = n + 1 := ⟨k - 1, by omega⟩
  have hd' := hd
  unfold plc at hd'
  simp only [impl_factors.l0]
  rw [wrap_id (x := (i : Int) + m) (by omega) (by omega), if_pos (by omega), if_pos (by omega), if_pos (by omega), if_pos (by omega), wrap_id (x := (i : Int) + 1) (by omega) (by omega)]
  rw [show (i : Int) + 1 = ((i + 1 : Nat) : Int) from rfl, ih k (i + 1) _ (by omega) (by simp [ha]) (by omega)]
  rw [show ((i : Int) + (m : Int)).toNat = i + m by omega, Int.toNat_natCast]
  simp [fcsFrom]

theorem impl_factors_ev (w : ByteArray) (m : Nat) (hw : w.size ≤ 1000000) (hm : m ≤ 1000000) : Ev (fun k => impl_factors.f k w (m : Int)) (fac w m) :=
 ⟨w.size + 2, fun k hk => by
  have h := impl_factors_loop w m hw hm (plc w m) k 0 [] (by omega) rfl (by unfold plc; omega)
  exact h⟩

theorem canon_nil : canon [] = [] := List.eq_nil_iff_forall_not_mem.2 fun x hx => by rw [mem_canon] at hx; cases hx

end Go.Proofs.Ytjmcffejpgblfaa.PF

namespace Go.Proofs.Ytjmcffejpgblfaa.PF
open Go.RowKit Go.Proofs.YtjmcffejpgblfaaW.PrintWords Go.Proofs.YtjmcffejpgblfaaW.PrintLast Go.Proofs.YtjmcffejpgblfaaW.PrintMore
set_option linter.unusedVariables false
set_option linter.unusedSimpArgs false

theorem filterP_some {α : Type} {p : α → Option Bool} {q : α → Bool} : ∀ (l : List α), (∀ x ∈ l, p x = some (q x)) → filterP p l = some (l.filter fun x => !q x)
 | [], _ => rfl
 | x :: l, h => by
  rw [filterP, h x (by simp), filterP_some l (fun y hy => h y (by simp [hy]))]
  simp only [Option.bind_some, List.filter_cons]
  cases q x <;> simp

instance baLaw : LawfulBEq ByteArray where
 eq_of_beq {a b} h := by
  cases a with | mk a => cases b with | mk b =>
  have : (a == b) = true := h
  rw [eq_of_beq this]
 rfl {a} := by
  cases a with | mk a =>
  show (a == a) = true
  exact BEq.rfl

end Go.Proofs.Ytjmcffejpgblfaa.PF

namespace Go.Proofs.Ytjmcffejpgblfaa.PF
open Go.RowKit Go.Proofs.YtjmcffejpgblfaaW.PrintWords Go.Proofs.YtjmcffejpgblfaaW.PrintLast Go.Proofs.YtjmcffejpgblfaaW.PrintMore
set_option linter.unusedVariables false
set_option linter.unusedSimpArgs false

/-- The palindromes of a length, in order. -/
def pals (w : ByteArray) (m : Nat) : List ByteArray := (fac w m).filter isPal
def palsFrom (w : ByteArray) : Nat → Nat → List ByteArray
 | 0, _ => []
 | d + 1, m => pals w m ++ palsFrom w d (m + 1)
def palAll (w : ByteArray) : List ByteArray := palsFrom w w.size 1

theorem pals_length (w : ByteArray) (m : Nat) : (pals w m).length ≤ w.size + 1 := by
 have h1 := List.length_filter_le isPal (fac w m)
 have h2 := fac_length_le w m
 unfold pals; omega
theorem palsFrom_length (w : ByteArray) (hw : w.size ≤ 60) : ∀ d m, (palsFrom w d m).length ≤ d * 61
 | 0, _ => Nat.le_refl _
 | d + 1, m => by
  have h1 := pals_length w m
  have h2 := palsFrom_length w hw d (m + 1)
  rw [palsFrom, List.length_append]; omega
theorem palAll_length (w : ByteArray) (hw : w.size ≤ 60) : (palAll w).length ≤ 60 * 61 := by
 have := palsFrom_length w hw w.size 1
 unfold palAll
 have h : w.size * 61 ≤ 60 * 61 := Nat.mul_le_mul_right _ hw
 omega

theorem pal_l0 (w : ByteArray) (hw : w.size ≤ 60) : ∀ (d k m : Nat) (l : List ByteArray), m + d = w.size + 1 → 1 ≤ m → l.length ≤ m * 61 → d + 1000 < k →
  impl_palindromes.l0 k w l (m : Int) = some (l ++ palsFrom w d m) := by
 intro d
 induction d with
 | zero =>
  intro k m l hd hm hl hk
  obtain ⟨k, rfl⟩ : ∃ n, k = n + 1 := ⟨k - 1, by omega⟩
  simp only [impl_palindromes.l0]
  rw [if_neg (by omega)]; simp [palsFrom]
 | succ d ih =>
  intro k m l hd hm hl hk
  obtain ⟨k, rfl⟩ : ∃ n, k = n + 1 := ⟨k - 1, by omega⟩
  have hf : impl_factors.f k w (m : Int) = some (fac w m) := by
   have h := impl_factors_loop w m (by omega) (by omega) (plc w m) k 0 [] (by omega) rfl (by unfold plc; omega)
   exact h
  have hdel : slices_DeleteFunc_string_string.f k (fac w m) (fun z0_ => impl_palindromes_1.f z0_) = some (pals w m) := by
   show filterP _ _ = _
   rw [filterP_some (q := fun u => !isPal u) _ (fun u hu => by
    obtain ⟨j, h1, rfl⟩ := (mem_fac w m u).1 hu
    show impl_palindromes_1.f _ = _
    unfold impl_palindromes_1.f
    rw [isPal_f _ (by rw [ByteArray.size_extract]; omega)]; rfl)]
   simp only [Bool.not_not]; rfl
  have h2 := pals_length w m
  simp only [impl_palindromes.l0]
  rw [if_pos (by omega), hf]
  simp only [Option.bind_some]
  rw [hdel]
  simp only [Option.bind_some]
  rw [if_pos (by omega), wrap_succ (by omega), ih k (m + 1) _ (by omega) (by omega) (by rw [List.length_append]; omega) (by omega), palsFrom]
  simp
theorem palindromes_f (w : ByteArray) (hw : w.size ≤ 60) (k : Nat) (hk : 2000 < k) : impl_palindromes.f k w = some (palAll w) := by
 have h := pal_l0 w hw w.size k 1 [] (by omega) (by omega) (by simp) (by omega)
 exact h

end Go.Proofs.Ytjmcffejpgblfaa.PF

namespace Go.Proofs.Ytjmcffejpgblfaa.PF
open Go.RowKit Go.Proofs.YtjmcffejpgblfaaW.PrintWords Go.Proofs.YtjmcffejpgblfaaW.PrintLast Go.Proofs.YtjmcffejpgblfaaW.PrintMore
set_option linter.unusedVariables false
set_option linter.unusedSimpArgs false
set_option maxRecDepth 20000

theorem tl_len (a : ByteArray) : a.toList.length = a.size := by rw [toList_eq, Array.length_toList]; rfl
theorem tl_extract (a : ByteArray) (i j : Nat) : (a.extract i j).toList = (a.toList.take j).drop i := by
 rw [toList_eq, toList_eq]
 simp only [ByteArray.data_extract, Array.toList_extract, List.extract_eq_take_drop, List.drop_take]
theorem isPal_iff (a : ByteArray) : isPal a = true ↔ a.toList = a.toList.reverse := by simp [isPal]

/-- The letters of a word from i to j. -/
def cut (W : List UInt8) (i j : Nat) : List UInt8 := (W.take j).drop i
def PalL (l : List UInt8) : Prop := l = l.reverse
theorem cut_len (W : List UInt8) (i j : Nat) (h : j ≤ W.length) : (cut W i j).length = j - i := by
 simp [cut, List.length_drop, List.length_take, Nat.min_eq_left h]
theorem cut_get (W : List UInt8) (i j t : Nat) (h : j ≤ W.length) (ht : t < j - i) : (cut W i j)[t]'(by rw [cut_len W i j h]; exact ht) = W[i + t]'(by omega) := by
 simp [cut, List.getElem_drop, List.getElem_take]
theorem pal_cut_iff (W : List UInt8) (i j : Nat) (h : j ≤ W.length) (hij : i ≤ j) : PalL (cut W i j) ↔ ∀ t (ht : t < j - i), W[i + t]'(by omega) = W[j - 1 - t]'(by omega) := by
 have hl := cut_len W i j h
 constructor
 ·
  intro hp t ht
  have e1 := cut_get W i j t h ht
  have e2 := cut_get W i j (j - i - 1 - t) h (by omega)
  have e3 : (cut W i j)[t]'(by omega) = (cut W i j).reverse[t]'(by rw [List.length_reverse]; omega) := by
   have hp' : cut W i j = (cut W i j).reverse := hp
   exact List.getElem_of_eq hp' _
  rw [List.getElem_reverse] at e3
  have e4 : (cut W i j).length - 1 - t = j - i - 1 - t := by omega
  simp only [e4] at e3
  rw [e1, e2] at e3
  rw [e3]; congr 1; omega
 ·
  intro hq
  refine List.ext_getElem (by simp) fun t h1 h2 => ?_
  rw [List.getElem_reverse]
  have e4 : (cut W i j).length - 1 - t = j - i - 1 - t := by omega
  simp only [e4]
  rw [cut_get W i j t h (by omega), cut_get W i j (j - i - 1 - t) h (by omega), hq t (by omega)]
  congr 1; omega
/-- The inside of a palindrome is one. -/
theorem pal_in (W : List UInt8) (i j : Nat) (h : j ≤ W.length) (hij : i + 2 ≤ j) (hp : PalL (cut W i j)) : PalL (cut W (i + 1) (j - 1)) := by
 rw [pal_cut_iff W i j h (by omega)] at hp
 rw [pal_cut_iff W (i + 1) (j - 1) (by omega) (by omega)]
 intro t ht
 have := hp (t + 1) (by omega)
 have e1 : i + 1 + t = i + (t + 1) := by omega
 have e2 : j - 1 - 1 - t = j - 1 - (t + 1) := by omega
 simp only [e1, e2]
 exact this
/-- A palindrome that ends a palindrome begins it. -/
theorem pal_front (W : List UInt8) (a b j : Nat) (h : j ≤ W.length) (hab : a ≤ b) (hbj : b ≤ j) (hA : PalL (cut W a j)) (hB : PalL (cut W b j)) : cut W a (a + (j - b)) = cut W b j := by
 rw [pal_cut_iff W a j h (by omega)] at hA
 rw [pal_cut_iff W b j h (by omega)] at hB
 refine List.ext_getElem (by rw [cut_len _ _ _ (by omega), cut_len _ _ _ h]; omega) fun t h1 h2 => ?_
 rw [cut_len _ _ _ h] at h2
 rw [cut_get W a (a + (j - b)) t (by omega) (by omega), cut_get W b j t h h2, hA t (by omega), hB t h2]

/-! ### at most one palindrome more at each end -/
/-- A list of letters ends at a place. -/
def endsAt (W u : List UInt8) (j : Nat) : Prop := u.length ≤ j ∧ j ≤ W.length ∧ cut W (j - u.length) j = u
theorem least_nat {P : Nat → Prop} : ∀ n, P n → ∃ m, P m ∧ ∀ i, i < m → ¬ P i := by
 intro n
 induction n using Nat.strongRecOn with
 | ind n ih =>
  intro h
  by_cases c : ∃ m, m < n ∧ P m
  ·
   obtain ⟨m, h1, h2⟩ := c; exact ih m h1 h2
  ·
   exact ⟨n, h, fun i hi hp => c ⟨i, hi, hp⟩⟩
theorem ends_inj {W u v : List UInt8} {j : Nat} (hu : PalL u) (hv : PalL v) (h1 : endsAt W u j) (h2 : endsAt W v j) (m1 : ∀ i, i < j → ¬ endsAt W u i) (m2 : ∀ i, i < j → ¬ endsAt W v i) (hl : u.length ≤ v.length) : u = v := by
 obtain ⟨a1, a2, a3⟩ := h1
 obtain ⟨b1, b2, b3⟩ := h2
 by_cases e : u.length = v.length
 ·
  rw [← a3, ← b3, e]
 ·
  exfalso
  rw [← a3] at hu
  rw [← b3] at hv
  have hf := pal_front W (j - v.length) (j - u.length) j a2 (by omega) (by omega) hv hu
  rw [a3, show j - (j - u.length) = u.length by omega] at hf
  exact m1 (j - v.length + u.length) (by omega) ⟨by omega, by omega, by rw [show j - v.length + u.length - u.length = j - v.length by omega]; exact hf⟩
theorem nodup_len : ∀ (n : Nat) (l : List Nat), l.Nodup → (∀ x ∈ l, x < n) → l.length ≤ n
 | 0, l, _, h => by
  cases l with
  | nil => simp
  | cons x l => exact absurd (h x (by simp)) (by omega)
 | n + 1, l, hd, h => by
  by_cases c : n ∈ l
  ·
   have h1 := nodup_len n (l.erase n) (hd.sublist List.erase_sublist) (fun x hx => by
    have h2 := h x (List.mem_of_mem_erase hx)
    have h3 : x ≠ n := fun e => by subst e; exact (List.Nodup.not_mem_erase hd) hx
    omega)
   rw [List.length_erase_of_mem c] at h1
   omega
  ·
   have := nodup_len n l hd (fun x hx => by
    have h2 := h x hx
    have h3 : x ≠ n := fun e => by subst e; exact c hx
    omega)
   omega
theorem few_pals (W : List UInt8) (L : List (List UInt8)) (hd : L.Nodup) (h : ∀ u ∈ L, PalL u ∧ 0 < u.length ∧ ∃ j, endsAt W u j) : L.length ≤ W.length := by
 have hex : ∀ u : List UInt8, ∃ e : Nat, u ∈ L → endsAt W u e ∧ ∀ i, i < e → ¬ endsAt W u i := fun u => by
  by_cases c : u ∈ L
  ·
   obtain ⟨_, _, j, hj⟩ := h u c
   obtain ⟨m, h1, h2⟩ := least_nat (P := endsAt W u) j hj
   exact ⟨m, fun _ => ⟨h1, h2⟩⟩
  ·
   exact ⟨0, fun g => absurd g c⟩
 obtain ⟨f, hf⟩ := Classical.axiomOfChoice hex
 have hn : (L.map fun u => f u - 1).Nodup := by
  show List.Pairwise _ _
  rw [List.pairwise_map]
  refine List.Pairwise.imp_of_mem ?_ hd
  intro u v hu hv hne he
  obtain ⟨p1, l1, _⟩ := h u hu
  obtain ⟨p2, l2, _⟩ := h v hv
  obtain ⟨e1, m1⟩ := hf u hu
  obtain ⟨e2, m2⟩ := hf v hv
  have hE : f u = f v := by have := e1.1; have := e2.1; omega
  rw [← hE] at e2 m2
  rcases Nat.le_total u.length v.length with g | g
  ·
   exact hne (ends_inj p1 p2 e1 e2 m1 m2 g)
  ·
   exact hne (ends_inj p2 p1 e2 e1 m2 m1 g).symm
 have := nodup_len W.length _ hn (fun x hx => by
  obtain ⟨u, hu, rfl⟩ := List.mem_map.1 hx
  obtain ⟨_, l1, _⟩ := h u hu
  obtain ⟨e1, _⟩ := hf u hu
  have := e1.1
  have := e1.2.1
  omega)
 rwa [List.length_map] at this

/-! ### all palindromes of a word -/
theorem mem_palsFrom (w u : ByteArray) : ∀ d m, u ∈ palsFrom w d m ↔ m ≤ u.size ∧ u.size < m + d ∧ isPal u = true ∧ ∃ j, j + u.size ≤ w.size ∧ u = w.extract j (j + u.size)
 | 0, m => by simp [palsFrom]; omega
 | d + 1, m => by
  rw [palsFrom, List.mem_append, mem_palsFrom w u d (m + 1)]
  have hp : u ∈ pals w m ↔ u.size = m ∧ isPal u = true ∧ ∃ j, j + u.size ≤ w.size ∧ u = w.extract j (j + u.size) := by
   unfold pals
   rw [List.mem_filter, mem_fac]
   constructor
   ·
    rintro ⟨⟨j, h1, h2⟩, h3⟩
    have hs : u.size = m := by rw [h2, ByteArray.size_extract]; omega
    exact ⟨hs, h3, j, by omega, by rw [hs]; exact h2⟩
   ·
    rintro ⟨h1, h2, j, h3, h4⟩
    exact ⟨⟨j, by omega, by rw [h1] at h4; exact h4⟩, h2⟩
  rw [hp]
  constructor
  ·
   rintro (⟨h1, h2, h3⟩ | ⟨h1, h2, h3⟩)
   ·
    exact ⟨by omega, by omega, h2, h3⟩
   ·
    exact ⟨by omega, by omega, h3⟩
  ·
   rintro ⟨h1, h2, h3⟩
   by_cases e : u.size = m
   ·
    exact .inl ⟨e, h3⟩
   ·
    exact .inr ⟨by omega, by omega, h3⟩
theorem palsFrom_nodup (w : ByteArray) : ∀ d m, (palsFrom w d m).Nodup
 | 0, m => by simp [palsFrom]
 | d + 1, m => by
  rw [palsFrom]
  refine List.nodup_append.2 ⟨SS_nodup (List.Pairwise.filter _ (fac_SS w m)), palsFrom_nodup w d (m + 1), fun a ha b hb e => ?_⟩
  subst e
  obtain ⟨h1, _⟩ := (mem_palsFrom w a d (m + 1)).1 hb
  obtain ⟨j, h2, h3⟩ := (mem_fac w m a).1 (List.mem_filter.1 ha).1
  have : a.size = m := by rw [h3, ByteArray.size_extract]; omega
  omega
theorem mem_palAll (w u : ByteArray) : u ∈ palAll w ↔ 1 ≤ u.size ∧ isPal u = true ∧ ∃ j, j + u.size ≤ w.size ∧ u = w.extract j (j + u.size) := by
 unfold palAll
 rw [mem_palsFrom]
 constructor
 ·
  rintro ⟨h1, h2, h3⟩; exact ⟨h1, h3⟩
 ·
  rintro ⟨h1, h2, j, h3, h4⟩; exact ⟨h1, by omega, h2, j, h3, h4⟩
theorem palAll_le (w : ByteArray) : (palAll w).length ≤ w.size := by
 have h := few_pals w.toList ((palAll w).map fun u => u.toList) (by
  show List.Pairwise _ _
  rw [List.pairwise_map]
  exact (palsFrom_nodup w _ _).imp fun hne e => hne (ba_inj.1 e)) (fun x hx => by
  obtain ⟨u, hu, rfl⟩ := List.mem_map.1 hx
  obtain ⟨h1, h2, j, h3, h4⟩ := (mem_palAll w u).1 hu
  refine ⟨(isPal_iff u).1 h2, by rw [tl_len]; omega, j + u.size, by rw [tl_len]; omega, by rw [tl_len]; omega, ?_⟩
  rw [tl_len, show j + u.size - u.size = j by omega]
  have e := congrArg ByteArray.toList h4
  rw [tl_extract] at e
  exact e.symm)
 rwa [List.length_map, tl_len] at h

/-! ### the longest palindrome at an end -/
theorem pal_ext (w : ByteArray) (i j : Nat) : isPal (w.extract i j) = true ↔ PalL (cut w.toList i j) := by
 rw [isPal_iff, tl_extract]; rfl
/-- The longest palindrome at the end of the first n letters begins at p. -/
structure EndP (w : ByteArray) (n p : Nat) : Prop where
 le : p < n
 pal : isPal (w.extract p n) = true
 no : ∀ q, q < p → ¬ isPal (w.extract q n) = true
theorem endP_ex (w : ByteArray) (n : Nat) (hn : 1 ≤ n) (hw : n ≤ w.size) : ∃ p, EndP w n p := by
 have hW := tl_len w
 have h1 : isPal (w.extract (n - 1) n) = true := by
  rw [pal_ext, pal_cut_iff _ _ _ (by omega) (by omega)]
  intro t ht
  have e1 : n - 1 + t = n - 1 := by omega
  have e2 : n - 1 - t = n - 1 := by omega
  simp only [e1, e2]
 obtain ⟨p, g1, g2⟩ := least_nat (P := fun p => isPal (w.extract p n) = true) (n - 1) h1
 refine ⟨p, ?_, g1, g2⟩
 rcases Nat.lt_or_ge (n - 1) p with g | g
 ·
  exact absurd h1 (g2 _ g)
 ·
  omega
theorem endP_step {w : ByteArray} {n p q : Nat} (hw : n + 1 ≤ w.size) (h1 : EndP w n p) (h2 : EndP w (n + 1) q) : (n + 1 - q) ≤ (n - p) + 2 := by
 have hW := tl_len w
 have := h1.le
 rcases Nat.lt_or_ge (n + 1 - q) 3 with g | g
 ·
  omega
 ·
  have hp := h2.pal
  rw [pal_ext] at hp
  have hi := pal_in w.toList q (n + 1) (by omega) (by omega) hp
  rw [Nat.add_sub_cancel, ← pal_ext] at hi
  rcases Nat.lt_or_ge (q + 1) p with k | k
  ·
   exact absurd hi (h1.no _ k)
  ·
   omega

end Go.Proofs.Ytjmcffejpgblfaa.PF

namespace Go.Proofs.Ytjmcffejpgblfaa.PF
open Go.RowKit Go.Proofs.YtjmcffejpgblfaaW.PrintWords Go.Proofs.YtjmcffejpgblfaaW.PrintLast Go.Proofs.YtjmcffejpgblfaaW.PrintMore
set_option linter.unusedVariables false
set_option linter.unusedSimpArgs false
set_option maxRecDepth 20000

/-- A letter more makes a new palindrome. -/
def NewP (V : List UInt8) (x : UInt8) : Prop := ∃ S : List UInt8, PalL S ∧ S ≠ [] ∧ S <:+ V ++ [x] ∧ ¬ S <:+: V
/-- Each letter made a new palindrome. -/
def Rich (W : List UInt8) : Prop := ∀ V x, V ++ [x] <+: W → NewP V x
structure Dir (V : List UInt8) : Prop where
 pal : PalL V
 rich : Rich V
 new : ∀ x, NewP V x
theorem dir_nil : Dir [] := ⟨rfl, fun V x h => by
 have := h.length_le
 simp at this, fun x => ⟨[x], rfl, by simp, by simp, by simp⟩⟩

/-- The only palindrome at the end that stands nowhere else is the longest. -/
theorem new_longest {V S Y : List UInt8} {x : UInt8} (hS : PalL S) (hs : S <:+ V ++ [x]) (hn : ¬ S <:+: V) (hY : PalL Y) (hy : Y <:+ V ++ [x]) : Y.length ≤ S.length := by
 rcases Nat.lt_or_ge S.length Y.length with g | g
 ·
  exfalso
  have h1 : S <:+ Y := List.suffix_of_suffix_length_le hs hy (by omega)
  have h2 : S <+: Y := by
   have := List.reverse_prefix.2 h1
   have e1 : S = S.reverse := hS
   have e2 : Y = Y.reverse := hY
   rw [← e1, ← e2] at this
   exact this
  obtain ⟨B, hB⟩ := h2
  obtain ⟨A, hA⟩ := hy
  have hBn : B ≠ [] := fun e => by subst e; have := congrArg List.length hB; simp at this; omega
  have e3 : A ++ S ++ B = V ++ [x] := by rw [List.append_assoc, hB, hA]
  obtain ⟨B', b, rfl⟩ : ∃ B' b, B = B' ++ [b] := ⟨B.dropLast, B.getLast hBn, (List.dropLast_concat_getLast hBn).symm⟩
  rw [← List.append_assoc] at e3
  have e4 := (List.append_inj' e3 (by simp)).1
  exact hn ⟨A, B', e4⟩
 ·
  exact g

section
variable {V T S : List UInt8} {x : UInt8}
theorem cl_pal (hS : PalL S) : PalL (T ++ S ++ T.reverse) := by
 have e : S = S.reverse := hS
 show _ = _
 simp only [List.reverse_append, List.reverse_reverse, List.append_assoc]
 rw [← e]
theorem cl_front (hU : T ++ S = V ++ [x]) : V ++ [x] <+: T ++ S ++ T.reverse := ⟨T.reverse, by rw [hU]⟩
/-- What stands in the front part shorter than Vx stands in V. -/
theorem cl_in {C A Y : List UInt8} (hV : V <+: C) (hA : A ++ Y <+: C) (hl : A.length + Y.length ≤ V.length) : Y <:+: V := by
 have h := List.prefix_of_prefix_length_le hA hV (by simp; omega)
 obtain ⟨B, hB⟩ := h
 exact ⟨A, B, hB⟩
theorem cl_once (hS : PalL S) (hU : T ++ S = V ++ [x]) (hn : ¬ S <:+: V) {A B : List UInt8} (h : A ++ S ++ B = T ++ S ++ T.reverse) : A.length = T.length := by
 have hUl := congrArg List.length hU
 have hl := congrArg List.length h
 simp only [List.length_append, List.length_reverse, List.length_singleton] at hUl hl
 have hV : V <+: T ++ S ++ T.reverse := List.IsPrefix.trans ⟨[x], rfl⟩ (cl_front hU)
 rcases Nat.lt_trichotomy A.length T.length with g | g | g
 ·
  exact absurd (cl_in (A := A) (Y := S) hV ⟨B, h⟩ (by omega)) hn
 ·
  exact g
 ·
  have hr := congrArg List.reverse h
  have e : S = S.reverse := hS
  have hp : (T ++ S ++ T.reverse).reverse = T ++ S ++ T.reverse := (cl_pal hS).symm
  rw [hp, List.reverse_append, List.reverse_append, ← e] at hr
  refine absurd (cl_in (A := B.reverse) (Y := S) hV ⟨A.reverse, by rw [List.append_assoc]; exact hr⟩ ?_) hn
  rw [List.length_reverse]; omega
theorem dir_step (hV : Dir V) (hS : PalL S) (hS0 : S ≠ []) (hU : T ++ S = V ++ [x]) (hn : ¬ S <:+: V) : Dir (T ++ S ++ T.reverse) := by
 have hUl := congrArg List.length hU
 simp only [List.length_append, List.length_singleton] at hUl
 have hf := cl_front hU
 have hVC : V <+: T ++ S ++ T.reverse := List.IsPrefix.trans ⟨[x], rfl⟩ hf
 have hp := cl_pal (T := T) hS
 have hend : [x] ++ V <:+ T ++ S ++ T.reverse := by
  have h := List.reverse_suffix.2 hf
  have e : V = V.reverse := hV.pal
  have e2 : (T ++ S ++ T.reverse).reverse = T ++ S ++ T.reverse := hp.symm
  rw [e2, List.reverse_append, ← e] at h
  exact h
 refine ⟨hp, fun V' z hpre => ?_, fun y => ?_⟩
 ·
  rcases Nat.lt_or_ge (V ++ [x]).length (V' ++ [z]).length with g | g
  ·
   -- a prefix longer than Vx
   have hle := hpre.length_le
   simp only [List.length_append, List.length_reverse, List.length_singleton] at g hle
   have ht : T.take (T.length - (V'.length - V.length)) ++ T.drop (T.length - (V'.length - V.length)) = T := List.take_append_drop _ _
   have hdl : (T.drop (T.length - (V'.length - V.length))).length = V'.length - V.length := by rw [List.length_drop]; omega
   generalize T.take (T.length - (V'.length - V.length)) = T1 at ht
   generalize T.drop (T.length - (V'.length - V.length)) = T2 at ht hdl
   subst ht
   simp only [List.length_append] at hUl hle
   have e1 : V' ++ [z] = T1 ++ T2 ++ S ++ T2.reverse := by
    have hq : T1 ++ T2 ++ S ++ T2.reverse <+: T1 ++ T2 ++ S ++ (T1 ++ T2).reverse := ⟨T1.reverse, by simp⟩
    have h1 := List.prefix_of_prefix_length_le hpre hq (by simp; omega)
    exact h1.eq_of_length (by simp; omega)
   refine ⟨T2 ++ S ++ T2.reverse, cl_pal hS, by simp [hS0], ⟨T1, by rw [e1]; simp⟩, fun hin => ?_⟩
   obtain ⟨A, B, hAB⟩ := hin
   have hl := congrArg List.length hAB
   simp only [List.length_append, List.length_reverse] at hl
   have hV'C : V' <+: T1 ++ T2 ++ S ++ (T1 ++ T2).reverse := List.IsPrefix.trans ⟨[z], rfl⟩ hpre
   refine hn (cl_in (A := A ++ T2) (Y := S) hVC (List.IsPrefix.trans ⟨T2.reverse ++ B, ?_⟩ hV'C) ?_)
   ·
    rw [← hAB]; simp
   ·
    simp only [List.length_append]; omega
  ·
   have h1 := List.prefix_of_prefix_length_le hpre hf g
   rcases Nat.lt_or_ge (V' ++ [z]).length (V ++ [x]).length with k | k
   ·
    refine hV.rich V' z (List.prefix_of_prefix_length_le h1 ⟨[x], rfl⟩ ?_)
    simp only [List.length_append, List.length_singleton] at k ⊢; omega
   ·
    have e := h1.eq_of_length (by omega)
    obtain ⟨e1, e2⟩ := List.append_inj' e (by simp)
    subst e1
    have e3 : z = x := by simpa using e2
    subst e3
    exact ⟨S, hS, hS0, ⟨T, hU⟩, hn⟩
 ·
  by_cases hyx : y = x
  ·
   subst hyx
   refine ⟨[y] ++ V ++ [y], ?_, by simp, ?_, fun hin => ?_⟩
   ·
    have e : V = V.reverse := hV.pal
    show _ = _
    simp only [List.reverse_append, List.reverse_cons, List.reverse_nil, List.nil_append, ← e]
    simp
   ·
    obtain ⟨D, hD⟩ := hend
    exact ⟨D, by rw [← hD]; simp⟩
   ·
    obtain ⟨A, B, hAB⟩ := hin
    have h := cl_once hS hU hn (A := A ++ [y] ++ T) (B := B) (by
     rw [← hAB]
     have : A ++ [y] ++ T ++ S ++ B = A ++ [y] ++ (T ++ S) ++ B := by simp
     rw [this, hU]; simp)
    simp only [List.length_append, List.length_singleton] at h
    omega
  ·
   obtain ⟨S', p1, p2, p3, p4⟩ := hV.new y
   have hVs : V <:+ T ++ S ++ T.reverse := List.IsSuffix.trans ⟨[x], rfl⟩ hend
   refine ⟨S', p1, p2, ?_, fun hin => ?_⟩
   ·
    obtain ⟨D, hD⟩ := hVs
    obtain ⟨E, hE⟩ := p3
    exact ⟨D ++ E, by rw [List.append_assoc, hE, ← hD]; simp⟩
   ·
    obtain ⟨A, B, hAB⟩ := hin
    have hl := congrArg List.length hAB
    simp only [List.length_append, List.length_reverse] at hl
    -- S' ends with y
    obtain ⟨S0, s, rfl⟩ : ∃ S0 s, S' = S0 ++ [s] := ⟨S'.dropLast, S'.getLast p2, (List.dropLast_concat_getLast p2).symm⟩
    obtain ⟨E, hE⟩ := p3
    rw [← List.append_assoc] at hE
    obtain ⟨hE1, hE2⟩ := List.append_inj' hE (by simp)
    have hsy : s = y := by simpa using hE2
    subst hsy
    simp only [List.length_append, List.length_singleton] at hl
    -- neither in the front nor in the end
    have a1 : V.length < A.length + (S0.length + 1) := by
     rcases Nat.lt_or_ge V.length (A.length + (S0.length + 1)) with k | k
     ·
      exact k
     ·
      exact absurd (cl_in (A := A) (Y := S0 ++ [s]) hVC ⟨B, hAB⟩ (by simp; omega)) p4
    have a2 : A.length ≤ T.length := by
     rcases Nat.lt_or_ge T.length A.length with k | k
     ·
      exfalso
      obtain ⟨D, hD⟩ := hVs
      have hDl := congrArg List.length hD
      simp only [List.length_append, List.length_reverse] at hDl
      have h1 : S0 ++ [s] ++ B <:+ T ++ S ++ T.reverse := ⟨A, by rw [← hAB]; simp⟩
      have h2 := List.suffix_of_suffix_length_le h1 ⟨D, hD⟩ (by simp; omega)
      obtain ⟨G, hG⟩ := h2
      exact p4 ⟨G, B, by rw [← hG]; simp⟩
     ·
      exact k
    -- so S stands inside
    have h1 : A <+: T := by
     refine List.prefix_of_prefix_length_le (l₃ := T ++ S ++ T.reverse) ⟨S0 ++ [s] ++ B, by rw [← hAB]; simp⟩ ⟨S ++ T.reverse, by simp⟩ a2
    obtain ⟨P, rfl⟩ := h1
    simp only [List.length_append] at hUl hl a2
    have h2 : S0 ++ [s] ++ B = P ++ S ++ (A ++ P).reverse := by
     have : A ++ (S0 ++ [s] ++ B) = A ++ (P ++ S ++ (A ++ P).reverse) := by
      rw [← List.append_assoc, ← List.append_assoc]
      simp only [List.append_assoc] at hAB ⊢
      exact hAB
     exact List.append_cancel_left this
    have h3 : P ++ S <+: S0 ++ [s] := by
     refine List.prefix_of_prefix_length_le (l₃ := S0 ++ [s] ++ B) ⟨(A ++ P).reverse, h2.symm⟩ ⟨B, rfl⟩ (by simp; omega)
    obtain ⟨Q, hQ⟩ := h3
    by_cases hq : Q = []
    ·
     subst hq
     rw [List.append_nil] at hQ
     -- S ends with x, S' with s
     obtain ⟨S1, t, rfl⟩ : ∃ S1 t, S = S1 ++ [t] := ⟨S.dropLast, S.getLast hS0, (List.dropLast_concat_getLast hS0).symm⟩
     rw [← List.append_assoc] at hQ hU
     have g1 := (List.append_inj' hQ (by simp)).2
     have g2 := (List.append_inj' hU (by simp)).2
     have g3 : t = s := by simpa using g1
     have g4 : t = x := by simpa using g2
     exact hyx (g3.symm.trans g4)
    ·
     obtain ⟨Q1, q, rfl⟩ : ∃ Q1 q, Q = Q1 ++ [q] := ⟨Q.dropLast, Q.getLast hq, (List.dropLast_concat_getLast hq).symm⟩
     rw [← List.append_assoc] at hQ
     have g1 := (List.append_inj' hQ (by simp)).1
     exact hn ⟨E ++ P, Q1, by rw [← hE1, ← g1]; simp⟩
end

/-- A directed word, closed behind a letter more, is directed. -/
theorem dir_close {V : List UInt8} {x : UInt8} (hV : Dir V) {i : Nat} (hi : i ≤ V.length) (hp : PalL ((V ++ [x]).drop i)) (hno : ∀ q, q < i → ¬ PalL ((V ++ [x]).drop q)) :
  Dir ((V ++ [x]).take i ++ (V ++ [x]).drop i ++ ((V ++ [x]).take i).reverse) := by
 obtain ⟨S, p1, p2, ⟨E, hE⟩, p4⟩ := hV.new x
 have hl := congrArg List.length hE
 simp only [List.length_append, List.length_singleton] at hl
 have hd : (V ++ [x]).drop E.length = S := by rw [← hE, List.drop_left']; rfl
 have h1 : i ≤ E.length := by
  rcases Nat.lt_or_ge E.length i with g | g
  ·
   exact absurd (by rw [hd]; exact p1) (hno _ g)
  ·
   exact g
 have h2 := new_longest p1 ⟨E, hE⟩ p4 hp (List.drop_suffix i _)
 rw [List.length_drop, List.length_append, List.length_singleton] at h2
 have h3 : i = E.length := by omega
 rw [← h3] at hd
 rw [hd]
 exact dir_step hV p1 p2 (by rw [← hd]; exact List.take_append_drop i _) p4

/-- As many palindromes as letters. -/
theorem rich_list (W : List UInt8) (hW : Rich W) : ∀ V, V <+: W → ∃ L : List (List UInt8), L.Nodup ∧ L.length = V.length ∧ ∀ u ∈ L, PalL u ∧ u ≠ [] ∧ u <:+: V := by
 intro V
 generalize hn : V.length = n
 induction n generalizing V with
 | zero =>
  intro _
  exact ⟨[], by simp, rfl, fun u hu => by cases hu⟩
 | succ n ih =>
  intro hp
  have h0 : V ≠ [] := fun e => by subst e; simp at hn
  obtain ⟨V', x, rfl⟩ : ∃ V' x, V = V' ++ [x] := ⟨V.dropLast, V.getLast h0, (List.dropLast_concat_getLast h0).symm⟩
  obtain ⟨L, h1, h2, h3⟩ := ih V' (by simpa using hn) (List.IsPrefix.trans ⟨[x], rfl⟩ hp)
  obtain ⟨S, p1, p2, p3, p4⟩ := hW V' x hp
  refine ⟨S :: L, List.nodup_cons.2 ⟨fun hm => p4 (h3 S hm).2.2, h1⟩, by rw [List.length_cons, h2], fun u hu => ?_⟩
  rcases List.mem_cons.1 hu with rfl | hu
  ·
   exact ⟨p1, p2, p3.isInfix⟩
  ·
   obtain ⟨q1, q2, q3⟩ := h3 u hu
   obtain ⟨A, B, hAB⟩ := q3
   exact ⟨q1, q2, A, B ++ [x], by rw [← hAB]; simp⟩
theorem nodup_sub : ∀ (l l' : List (List UInt8)), l.Nodup → (∀ x ∈ l, x ∈ l') → l.length ≤ l'.length
 | [], _, _, _ => by simp
 | x :: l, l', hd, h => by
  have hx := h x (by simp)
  have := nodup_sub l (l'.erase x) (List.nodup_cons.1 hd).2 (fun y hy => by
   have hne : y ≠ x := fun e => by subst e; exact (List.nodup_cons.1 hd).1 hy
   exact (List.mem_erase_of_ne hne).2 (h y (by simp [hy])))
  rw [List.length_erase_of_mem hx] at this
  have := List.length_pos_of_mem hx
  rw [List.length_cons]; omega
theorem palAll_rich (w : ByteArray) (h : Rich w.toList) : (palAll w).length = w.size := by
 have h1 := palAll_le w
 obtain ⟨L, h2, h3, h4⟩ := rich_list w.toList h w.toList ⟨[], by simp⟩
 have h5 := nodup_sub L ((palAll w).map fun u => u.toList) h2 (fun u hu => by
  obtain ⟨q1, q2, A, B, hAB⟩ := h4 u hu
  have hl := congrArg List.length hAB
  simp only [List.length_append] at hl
  rw [tl_len] at hl
  have hu0 : 0 < u.length := List.length_pos_iff.2 q2
  refine List.mem_map.2 ⟨w.extract A.length (A.length + u.length), (mem_palAll w _).2 ⟨by rw [ByteArray.size_extract]; omega, ?_, A.length, by rw [ByteArray.size_extract]; omega, by rw [ByteArray.size_extract]; congr 1; omega⟩, ?_⟩
  ·
   rw [isPal_iff, tl_extract, ← hAB]
   have e : List.drop A.length (List.take (A.length + u.length) (A ++ u ++ B)) = u := by
    rw [List.append_assoc, List.take_append, List.take_of_length_le (by omega), Nat.add_sub_cancel_left, List.take_left', List.drop_left']
    ·
     rfl
    ·
     rfl
   rw [e]; exact q1
  ·
   rw [tl_extract, ← hAB, List.append_assoc, List.take_append, List.take_of_length_le (by omega), Nat.add_sub_cancel_left, List.take_left', List.drop_left']
   ·
    rfl
   ·
    rfl)
 rw [List.length_map, h3, tl_len] at h5
 omega

end Go.Proofs.Ytjmcffejpgblfaa.PF

namespace Go.Proofs.Ytjmcffejpgblfaa.PF
open Go.RowKit Go.Proofs.YtjmcffejpgblfaaW.PrintWords Go.Proofs.YtjmcffejpgblfaaW.PrintLast Go.Proofs.YtjmcffejpgblfaaW.PrintMore
set_option linter.unusedVariables false
set_option linter.unusedSimpArgs false
set_option maxRecDepth 20000

theorem ending_loop (a : ByteArray) (ha : a.size ≤ 1000) (p : Nat) (hp : p ≤ a.size) (hpp : isPal (a.extract p a.size) = true) (hq : ∀ q, q < p → ¬ isPal (a.extract q a.size) = true) : ∀ (d k i : Nat), i + d = p → d < k → impl_ending.l0 k a (i : Int) = some ((a.size - p : Nat) : Int) := by
 intro d
 induction d with
 | zero =>
  intro k i hi hk
  obtain ⟨k, rfl⟩ : ∃ m, k = m + 1 := ⟨k - 1, by omega⟩
  have e : i = p := by omega
  subst e
  simp only [impl_ending.l0]
  rw [if_pos (by omega), if_pos (by omega), Int.toNat_natCast, isPal_f _ (by rw [ByteArray.size_extract]; omega), Option.bind_some, if_pos hpp, wrap_id (by omega) (by omega)]
  congr 1; omega
 | succ d ih =>
  intro k i hi hk
  obtain ⟨k, rfl⟩ : ∃ m, k = m + 1 := ⟨k - 1, by omega⟩
  simp only [impl_ending.l0]
  rw [if_pos (by omega), if_pos (by omega), Int.toNat_natCast, isPal_f _ (by rw [ByteArray.size_extract]; omega), Option.bind_some, if_neg (hq i (by omega)), wrap_succ (by omega), ih k (i + 1) (by omega) (by omega)]
theorem l04End_loop (a : ByteArray) (ha : a.size ≤ 1000) (p : Nat) (hp : p < a.size) (hpp : isPal (a.extract p a.size) = true) (hq : ∀ q, q < p → ¬ isPal (a.extract q a.size) = true) : ∀ (d k i : Nat), i + d = p → d + 2000 < k → spec_l04End.l0 k a (i : Int) = some ((a.size - p : Nat) : Int) := by
 intro d
 induction d with
 | zero =>
  intro k i hi hk
  obtain ⟨k, rfl⟩ : ∃ m, k = m + 1 := ⟨k - 1, by omega⟩
  have e : i = p := by omega
  subst e
  have hsz : (a.extract i a.size).size ≤ 1000 := by rw [ByteArray.size_extract]; omega
  simp only [spec_l04End.l0]
  rw [if_pos (by omega), if_pos (by omega), if_pos (by omega), Int.toNat_natCast, l04Is_f _ (by omega) k (by omega), Option.bind_some, if_pos hpp, wrap_id (by omega) (by omega)]
  congr 1; omega
 | succ d ih =>
  intro k i hi hk
  obtain ⟨k, rfl⟩ : ∃ m, k = m + 1 := ⟨k - 1, by omega⟩
  have hsz : (a.extract i a.size).size ≤ 1000 := by rw [ByteArray.size_extract]; omega
  simp only [spec_l04End.l0]
  rw [if_pos (by omega), if_pos (by omega), if_pos (by omega), Int.toNat_natCast, l04Is_f _ (by omega) k (by omega), Option.bind_some, if_neg (hq i (by omega)), wrap_succ (by omega), ih k (i + 1) (by omega) (by omega)]
theorem tl_append (a b : ByteArray) : (a ++ b).toList = a.toList ++ b.toList := by
 rw [toList_eq, toList_eq, toList_eq, ByteArray.data_append, Array.toList_append]
theorem sz_rev (a : ByteArray) : (rev a).size = a.size := by rw [← tl_len, rev_toList, List.length_reverse, tl_len]
theorem reversed_f (a : ByteArray) (h : a.size ≤ 1000000) : impl_reversed.f a = some (rev a) := by unfold impl_reversed.f; rw [if_pos (by omega)]
theorem srev_loop (a : ByteArray) (ha : a.size ≤ 1000000) : ∀ (d k : Nat), d ≤ a.size → d < k → spec_l01Reversed.l0 k a ((bytesOf a).drop d).reverse ((d : Int) - 1) = some (rev a) := by
 intro d
 induction d with
 | zero =>
  intro k hd hk
  obtain ⟨k, rfl⟩ : ∃ m, k = m + 1 := ⟨k - 1, by omega⟩
  simp only [spec_l01Reversed.l0]
  rw [if_neg (by omega)]; rfl
 | succ d ih =>
  intro k hd hk
  obtain ⟨k, rfl⟩ : ∃ m, k = m + 1 := ⟨k - 1, by omega⟩
  have e : ((d + 1 : Nat) : Int) - 1 = (d : Int) := by omega
  have hl : ((bytesOf a).drop (d + 1)).reverse.length = a.size - (d + 1) := by rw [List.length_reverse, List.length_drop, bytesOf_length]
  have hb : d < (bytesOf a).length := by rw [bytesOf_length]; omega
  simp only [spec_l01Reversed.l0, e]
  rw [if_pos (by omega), if_pos (by omega), if_pos (by omega), if_pos (by omega), wrap_id (by omega) (by omega)]
  have := ih k (by omega) (by omega)
  rw [List.drop_eq_getElem_cons hb, List.reverse_cons] at this
  rw [← this]
  congr 2
  rw [← rd_bytesOf, rd_nat _ _ hb]
theorem srev_ev (a : ByteArray) (ha : a.size ≤ 1000000) : Ev (fun k => spec_l01Reversed.f k a) (rev a) :=
 ⟨a.size + 1, fun k hk => by
  have h := srev_loop a ha a.size k (by omega) (by omega)
  rw [List.drop_eq_nil_of_le (by rw [bytesOf_length]; exact Nat.le_refl _)] at h
  unfold spec_l01Reversed.f
  rw [wrap_id (by omega) (by omega)]; exact h⟩
theorem isW_iff (a : ByteArray) : isW a = true ↔ a.size ≤ 60 ∧ ∀ b ∈ a.toList, isLet (b.toNat : Int) = true := by
 simp only [isW, Bool.and_eq_true, decide_eq_true_eq, bytesOf, List.all_eq_true, List.mem_map, toList_eq]
 constructor
 ·
  rintro ⟨h1, h2⟩; exact ⟨h1, fun b hb => h2 _ ⟨b, hb, rfl⟩⟩
 ·
  rintro ⟨h1, h2⟩; exact ⟨h1, by rintro x ⟨b, hb, rfl⟩; exact h2 b hb⟩
theorem close_ev (w : ByteArray) (h0 : 0 < w.size) (hs : w.size ≤ 500) : ∃ v : ByteArray, isPal v = true ∧ w.size ≤ v.size ∧ v.size + 1 ≤ 2 * w.size ∧ v.extract 0 w.size = w ∧ (∀ b ∈ v.toList, b ∈ w.toList) ∧
  Ev (fun k => impl_closure.f k w) v ∧ Ev (fun k => spec_l04Closure.f k w) v ∧ (∀ V x, w.toList = V ++ [x] → Dir V → Dir v.toList) := by
 obtain ⟨i, hE⟩ := endP_ex w w.size (by omega) (by omega)
 have h1 := hE.le
 have h3 := hE.pal
 have h4 := hE.no
 have hxs : (w.extract 0 i).size = i := by rw [ByteArray.size_extract]; omega
 have hvs : (w ++ rev (w.extract 0 i)).size = w.size + i := by rw [ByteArray.size_append, sz_rev, hxs]
 have hlt : (w.toList.take w.size) = w.toList := List.take_of_length_le (by rw [tl_len]; exact Nat.le_refl _)
 have e1 : wrap64 ((w.size : Int) - ((w.size - i : Nat) : Int)) = (i : Int) := by rw [wrap_id (by omega) (by omega)]; omega
 have a1 : (0 : Int) ≤ (i : Int) := by omega
 have a2 : (i : Int) ≤ (w.size : Int) := by omega
 have a3 : w.size + (rev (w.extract 0 i)).size ≤ 9223372036854775807 := by rw [sz_rev, hxs]; omega
 have hne : ¬ w.toList = ([] : List UInt8) := fun e => by have := tl_len w; rw [e] at this; simp at this; omega
 have hvl : (w ++ rev (w.extract 0 i)).toList = w.toList ++ (w.toList.take i).reverse := by rw [tl_append, rev_toList, tl_extract, List.drop_zero]
 refine ⟨w ++ rev (w.extract 0 i), ?_, by omega, by omega, ?_, ?_, ?_, ?_, ?_⟩
 ·
  rw [isPal_iff] at h3 ⊢
  rw [tl_extract, hlt] at h3
  rw [hvl]
  have hsp : w.toList = w.toList.take i ++ w.toList.drop i := (List.take_append_drop i _).symm
  generalize w.toList.take i = U at hsp ⊢
  generalize w.toList.drop i = V at hsp h3
  rw [hsp, List.reverse_append, List.reverse_append, List.reverse_reverse, ← h3, List.append_assoc]
 ·
  refine ba_inj.1 ?_
  rw [tl_extract, tl_append, List.drop_zero, ← tl_len w, List.take_left]
 ·
  intro b hb
  rw [hvl, List.mem_append, List.mem_reverse] at hb
  exact hb.elim id fun g => List.mem_of_mem_take g
 ·
  unfold impl_closure.f
  refine ev_bnd (a := ((w.size - i : Nat) : Int)) ⟨i + 1, fun k hk => ending_loop w (by omega) i (by omega) h3 h4 i k 0 (by omega) (by omega)⟩ ?_
  simp only [e1, a1, a2, if_true, Int.toNat_natCast, reversed_f (w.extract 0 i) (by rw [hxs]; omega), Option.bind_some, a3]
  exact ev_of rfl
 ·
  unfold spec_l04Closure.f
  simp only [hne, if_false]
  refine ev_bnd (a := ((w.size - i : Nat) : Int)) ⟨5000, fun k hk => l04End_loop w (by omega) i h1 h3 h4 i k 0 (by omega) (by omega)⟩ ?_
  simp only [e1, a1, a2, if_true, Int.toNat_natCast]
  refine ev_bnd (srev_ev _ (by rw [hxs]; omega)) ?_
  simp only [a3, if_true]
  exact ev_of rfl
 ·
  intro V x hV hD
  have hWl := congrArg List.length hV
  rw [tl_len, List.length_append, List.length_singleton] at hWl
  have hdr : ∀ q, q ≤ w.size → (isPal (w.extract q w.size) = true ↔ PalL ((V ++ [x]).drop q)) := fun q _ => by
   rw [isPal_iff, tl_extract, hlt, hV]; rfl
  have := dir_close hD (i := i) (by omega) ((hdr i (by omega)).1 h3) (fun q hq hp => h4 q hq ((hdr q (by omega)).2 hp))
  rw [List.take_append_drop] at this
  rw [hvl, hV]
  exact this

end Go.Proofs.Ytjmcffejpgblfaa.PF

namespace Go.Proofs.Ytjmcffejpgblfaa.PF
open Go.RowKit Go.Proofs.YtjmcffejpgblfaaW.PrintWords Go.Proofs.YtjmcffejpgblfaaW.PrintLast Go.Proofs.YtjmcffejpgblfaaW.PrintMore
set_option linter.unusedVariables false
set_option linter.unusedSimpArgs false

theorem ba_toList_inj {a b : ByteArray} : (a.toList = b.toList) = (a = b) := propext ba_inj

theorem hasPrefix_f (a b : ByteArray) (ha : a.size ≤ 9000000000000000000) : strings_HasPrefix.f a b = some (decide (b.size ≤ a.size ∧ a.extract 0 b.size = b)) := by
 unfold strings_HasPrefix.f stringslite_HasPrefix.f
 by_cases h : b.size ≤ a.size
 ·
  simp only [show (a.size : Int) ≥ (b.size : Int) by omega, show (0 : Int) ≤ (b.size : Int) by omega, if_true, show (b.size : Int) ≤ (a.size : Int) by omega, Int.toNat_natCast, Option.bind_some, h, true_and]
  rw [Bool.beq_eq_decide_eq]
  simp only [ba_toList_inj]
 ·
  simp only [show ¬ (a.size : Int) ≥ (b.size : Int) by omega, if_false, Option.bind_some, h, false_and, decide_false]

theorem hasPrefix_at (w v : ByteArray) (i : Nat) (hi : i ≤ w.size) (hw : w.size ≤ 9000000000000000000) : strings_HasPrefix.f (w.extract i w.size) v = some (decide (i + v.size ≤ w.size ∧ w.extract i (i + v.size) = v)) := by
 rw [hasPrefix_f _ _ (by rw [ByteArray.size_extract]; omega)]
 congr 1
 rw [decide_eq_decide, ByteArray.size_extract, ByteArray.extract_extract]
 constructor
 ·
  rintro ⟨h1, h2⟩
  have : i + v.size ≤ w.size := by omega
  refine ⟨this, ?_⟩
  rwa [Nat.add_zero, Nat.min_eq_left this] at h2
 ·
  rintro ⟨h1, h2⟩
  refine ⟨by omega, ?_⟩
  rwa [Nat.add_zero, Nat.min_eq_left h1]

/-- The places from i on. -/
def plcs (w v : ByteArray) : Nat → Nat → List Int
 | 0, _ => []
 | d + 1, i => if i + v.size ≤ w.size ∧ w.extract i (i + v.size) = v then (i : Int) :: plcs w v d (i + 1) else plcs w v d (i + 1)
def places (w v : ByteArray) : List Int := plcs w v (w.size + 1) 0

theorem plcs_nil (w v : ByteArray) : ∀ d i, w.size < i + v.size → plcs w v d i = []
 | 0, _, _ => rfl
 | d + 1, i, h => by rw [plcs, if_neg (fun c => by omega), plcs_nil w v d (i + 1) (by omega)]
theorem plcs_length (w v : ByteArray) : ∀ d i, (plcs w v d i).length ≤ d
 | 0, _ => Nat.le_refl _
 | d + 1, i => by
  have := plcs_length w v d (i + 1)
  rw [plcs]; split
  ·
   rw [List.length_cons]; omega
  ·
   omega
theorem plcs_mem (w v : ByteArray) (x : Int) : ∀ d i, x ∈ plcs w v d i → ∃ j : Nat, x = j ∧ i ≤ j ∧ j + v.size ≤ w.size ∧ w.extract j (j + v.size) = v
 | 0, _, h => by cases h
 | d + 1, i, h => by
  rw [plcs] at h
  split at h
  ·
   rename_i c
   rcases List.mem_cons.1 h with e | h
   ·
    exact ⟨i, e, Nat.le_refl _, c.1, c.2⟩
   ·
    obtain ⟨j, h1, h2, h3⟩ := plcs_mem w v x d (i + 1) h
    exact ⟨j, h1, by omega, h3⟩
  ·
   obtain ⟨j, h1, h2, h3⟩ := plcs_mem w v x d (i + 1) h
   exact ⟨j, h1, by omega, h3⟩
theorem plcs_sorted (w v : ByteArray) : ∀ d i, (plcs w v d i).Pairwise (· < ·)
 | 0, _ => List.Pairwise.nil
 | d + 1, i => by
  rw [plcs]; split
  ·
   refine List.pairwise_cons.2 ⟨fun y hy => ?_, plcs_sorted w v d (i + 1)⟩
   obtain ⟨j, h1, h2, _⟩ := plcs_mem w v y d (i + 1) hy
   omega
  ·
   exact plcs_sorted w v d (i + 1)

theorem places_length (w v : ByteArray) : (places w v).length ≤ w.size + 1 := plcs_length w v _ _

theorem impl_places_loop (w v : ByteArray) (hw : w.size ≤ 60) (hv : v.size ≤ 60) : ∀ (d k i : Nat) (acc : List Int), i + d = w.size + 1 → acc.length ≤ i → d < k →
  impl_places.l0 k w v acc ((w.size : Int) + 1) (i : Int) = some (acc ++ plcs w v d i) := by
 intro d
 induction d with
 | zero =>
  intro k i acc hd ha hk
  obtain ⟨k, rfl⟩ : ∃ n, k = n + 1 := ⟨k - 1, by omega⟩
  simp only [impl_places.l0]
  rw [if_neg (by omega)]
  simp [plcs]
 | succ d ih =>
  intro k i acc hd ha hk
  obtain ⟨k, rfl⟩ : ∃ n, k = n + 1 := ⟨k - 1, by omega⟩
  simp only [impl_places.l0]
  rw [if_pos (by omega), if_pos (by omega), if_pos (by omega), wrap_succ (by omega), Int.toNat_natCast, hasPrefix_at w v i (by omega) (by omega)]
  simp only [Option.bind_some, decide_eq_true_eq]
  by_cases c : i + v.size ≤ w.size ∧ w.extract i (i + v.size) = v
  ·
   rw [if_pos c, if_pos (by omega), ih k (i + 1) _ (by omega) (by simp; omega) (by omega), plcs, if_pos c]
   simp
  ·
   rw [if_neg c, ih k (i + 1) _ (by omega) (by omega) (by omega), plcs, if_neg c]

theorem impl_places_ev (w v : ByteArray) (hw : w.size ≤ 60) (hv : v.size ≤ 60) : Ev (fun k => impl_places.f k w v) (places w v) :=
 ⟨w.size + 2, fun k hk => by
  have h := impl_places_loop w v hw hv (w.size + 1) k 0 [] (by omega) (by simp) (by omega)
  show impl_places.f k w v = _
  unfold impl_places.f
  rw [wrap_id (by omega) (by omega)]
  exact h⟩

end Go.Proofs.Ytjmcffejpgblfaa.PF

namespace Go.Proofs.Ytjmcffejpgblfaa.PF
open Go.RowKit Go.Proofs.YtjmcffejpgblfaaW.PrintWords Go.Proofs.YtjmcffejpgblfaaW.PrintLast Go.Proofs.YtjmcffejpgblfaaW.PrintMore
set_option linter.unusedVariables false
set_option linter.unusedSimpArgs false
set_option maxRecDepth 20000

theorem plcs_append (w v : ByteArray) (d2 : Nat) : ∀ d1 i, plcs w v (d1 + d2) i = plcs w v d1 i ++ plcs w v d2 (i + d1)
 | 0, i => by rw [Nat.zero_add]; rfl
 | d1 + 1, i => by
  rw [show d1 + 1 + d2 = (d1 + d2) + 1 by omega, plcs, plcs, plcs_append w v d2 d1 (i + 1), show i + 1 + d1 = i + (d1 + 1) by omega]
  split <;> rfl

/-- A word with which another one ends as it begins: the places between. -/
def mids (w : ByteArray) (b : Nat) : List Int := plcs w (w.extract 0 b) (w.size - b - 1) 1

theorem size_pre (w : ByteArray) (b : Nat) (h : b ≤ w.size) : (w.extract 0 b).size = b := by rw [ByteArray.size_extract]; omega

theorem places_border (w : ByteArray) (b : Nat) (h1 : 1 ≤ b) (h2 : b < w.size) (hb : w.extract (w.size - b) w.size = w.extract 0 b) : (places w (w.extract 0 b)).length = (mids w b).length + 2 := by
 have hs := size_pre w b (by omega)
 unfold places mids
 rw [show w.size + 1 = 1 + ((w.size - b - 1) + (1 + b)) by omega, plcs_append, plcs_append, plcs_append]
 have e1 : plcs w (w.extract 0 b) 1 0 = [0] := by
  rw [plcs, if_pos ⟨by omega, by rw [hs, Nat.zero_add]⟩]; rfl
 have e2 : plcs w (w.extract 0 b) 1 (0 + 1 + (w.size - b - 1)) = [((w.size - b : Nat) : Int)] := by
  rw [show 0 + 1 + (w.size - b - 1) = w.size - b by omega, plcs, if_pos ⟨by omega, by rw [hs, show w.size - b + b = w.size by omega]; exact hb⟩]; rfl
 have e3 : plcs w (w.extract 0 b) b (0 + 1 + (w.size - b - 1) + 1) = [] := plcs_nil w _ _ _ (by omega)
 rw [e1, e2, e3]
 simp only [List.length_append, List.length_cons, List.length_nil, Nat.zero_add]
 omega

/-- A border that stands nowhere else. -/
def ret1 (w : ByteArray) (b : Nat) : Bool := decide (w.extract (w.size - b) w.size = w.extract 0 b ∧ mids w b = [])
/-- The lengths of them, from b on. -/
def retB (w : ByteArray) : Nat → Nat → List Nat
 | 0, _ => []
 | d + 1, b => if ret1 w b = true then b :: retB w d (b + 1) else retB w d (b + 1)
theorem retB_mem (w : ByteArray) (x : Nat) : ∀ d b, x ∈ retB w d b ↔ b ≤ x ∧ x < b + d ∧ ret1 w x = true
 | 0, b => by simp [retB]; omega
 | d + 1, b => by
  rw [retB]
  have ih := retB_mem w x d (b + 1)
  split
  ·
   rename_i c
   rw [List.mem_cons, ih]
   constructor
   ·
    rintro (rfl | ⟨h1, h2, h3⟩)
    ·
     exact ⟨Nat.le_refl _, by omega, c⟩
    ·
     exact ⟨by omega, by omega, h3⟩
   ·
    rintro ⟨h1, h2, h3⟩
    by_cases e : x = b
    ·
     exact .inl e
    ·
     exact .inr ⟨by omega, by omega, h3⟩
  ·
   rename_i c
   rw [ih]
   constructor
   ·
    rintro ⟨h1, h2, h3⟩; exact ⟨by omega, by omega, h3⟩
   ·
    rintro ⟨h1, h2, h3⟩
    have e : x ≠ b := fun e => c (e ▸ h3)
    exact ⟨by omega, by omega, h3⟩
theorem retB_length (w : ByteArray) : ∀ d b, (retB w d b).length ≤ d
 | 0, _ => Nat.le_refl _
 | d + 1, b => by
  have := retB_length w d (b + 1)
  rw [retB]; split
  ·
   rw [List.length_cons]; omega
  ·
   omega

/-- Is it privileged? -/
def prv : Nat → ByteArray → Bool
 | 0, _ => false
 | k + 1, w => decide (w.size ≤ 1) || (retB w (w.size - 1) 1).any fun b => prv k (w.extract 0 b)
def clo (w : ByteArray) : Bool := decide (w.size ≤ 1) || (retB w (w.size - 1) 1).any fun _ => true

/-- What is asked at most as deep as the word is long comes out the same. -/
theorem prv_deep : ∀ (k k' : Nat) (w : ByteArray), w.size < k → w.size < k' → prv k w = prv k' w := by
 intro k
 induction k with
 | zero => intro k' w h; omega
 | succ k ih =>
  intro k' w h h'
  obtain ⟨k', rfl⟩ : ∃ n, k' = n + 1 := ⟨k' - 1, by omega⟩
  rw [prv, prv]
  congr 1
  rw [Bool.eq_iff_iff, List.any_eq_true, List.any_eq_true]
  constructor
  ·
   rintro ⟨b, hb, g⟩
   have hm := (retB_mem w b _ _).1 hb
   have hs := size_pre w b (by omega)
   exact ⟨b, hb, by rw [← ih k' _ (by omega) (by omega)]; exact g⟩
  ·
   rintro ⟨b, hb, g⟩
   have hm := (retB_mem w b _ _).1 hb
   have hs := size_pre w b (by omega)
   exact ⟨b, hb, by rw [ih k' _ (by omega) (by omega)]; exact g⟩

theorem places_f (w v : ByteArray) (hw : w.size ≤ 60) (hv : v.size ≤ 60) (k : Nat) (hk : w.size + 2 ≤ k) : impl_places.f k w v = some (places w v) := by
 have h := impl_places_loop w v hw hv (w.size + 1) k 0 [] (by omega) (by simp) (by omega)
 unfold impl_places.f
 rw [wrap_id (by omega) (by omega)]
 exact h

theorem returns_loop (w : ByteArray) (hw : w.size ≤ 60) : ∀ (d k b : Nat) (acc : List ByteArray), b + d = w.size → 1 ≤ b → acc.length ≤ b → d + 100 < k →
  impl_returns.l0 k w acc (b : Int) = some (acc ++ (retB w d b).map fun b => w.extract 0 b) := by
 intro d
 induction d with
 | zero =>
  intro k b acc hd hb ha hk
  obtain ⟨k, rfl⟩ : ∃ n, k = n + 1 := ⟨k - 1, by omega⟩
  simp only [impl_returns.l0]
  rw [if_neg (by omega)]
  simp [retB]
 | succ d ih =>
  intro k b acc hd hb ha hk
  obtain ⟨k, rfl⟩ : ∃ n, k = n + 1 := ⟨k - 1, by omega⟩
  have hw1 : wrap64 ((b : Int) + 1) = ((b + 1 : Nat) : Int) := wrap_succ (by omega)
  have hs : wrap64 ((w.size : Int) - (b : Int)) = ((w.size - b : Nat) : Int) := wrap_nat (by omega) (by omega)
  simp only [impl_returns.l0]
  rw [if_pos (by omega), if_pos (by omega), if_pos (by omega), hs, if_pos (by omega), if_pos (by omega), Int.toNat_natCast, Int.toNat_natCast, hw1]
  rw [retB]
  by_cases c : w.extract (w.size - b) w.size = w.extract 0 b
  ·
   rw [if_pos (by rw [c]), places_f w _ hw (by rw [size_pre w b (by omega)]; omega) k (by omega)]
   simp only [Option.bind_some]
   have hp := places_border w b hb (by omega) c
   by_cases c2 : mids w b = []
   ·
    rw [if_pos (by rw [hp, c2]; rfl), if_pos (by omega), ih k (b + 1) _ (by omega) (by omega) (by simp; omega) (by omega), if_pos (by unfold ret1; exact decide_eq_true ⟨c, c2⟩)]
    simp
   ·
    have : (mids w b).length ≠ 0 := fun e => c2 (List.eq_nil_of_length_eq_zero e)
    rw [if_neg (by omega), ih k (b + 1) _ (by omega) (by omega) (by omega) (by omega), if_neg (by unfold ret1; rw [decide_eq_false (fun h => c2 h.2)]; decide)]
  ·
   rw [if_neg (fun e => c (ba_inj.1 e)), ih k (b + 1) _ (by omega) (by omega) (by omega) (by omega), if_neg (by unfold ret1; rw [decide_eq_false (fun h => c h.1)]; decide)]

theorem returns_f (w : ByteArray) (hw : w.size ≤ 60) (h1 : 1 < w.size) (k : Nat) (hk : 200 < k) : impl_returns.f k w = some ((retB w (w.size - 1) 1).map fun b => w.extract 0 b) := by
 have h := returns_loop w hw (w.size - 1) k 1 [] (by omega) (by omega) (by simp) (by omega)
 exact h

theorem isClosed_f (w : ByteArray) (hw : w.size ≤ 60) (k : Nat) (hk : 200 < k) : impl_isClosed.f k w = some (clo w) := by
 unfold impl_isClosed.f clo
 by_cases h : w.size ≤ 1
 ·
  rw [if_pos (by omega), decide_eq_true h, Bool.true_or]
 ·
  rw [if_neg (by omega), decide_eq_false h, Bool.false_or, returns_f w hw (by omega) k hk]
  simp only [Option.bind_some, List.length_map]
  congr 1
  cases retB w (w.size - 1) 1 with
  | nil => rfl
  | cons x l => simp

theorem idxP_some {α : Type} (p : α → Option Bool) (q : α → Bool) : ∀ (l : List α) (i : Int), 0 ≤ i → (∀ x ∈ l, p x = some (q x)) → ∃ j, idxP p i l = some j ∧ decide (0 ≤ j) = l.any q
 | [], i, hi, h => ⟨-1, rfl, rfl⟩
 | x :: l, i, hi, h => by
  have hx := h x List.mem_cons_self
  rw [idxP, hx, List.any_cons]
  cases hq : q x with
  | true => exact ⟨i, by simp, by rw [decide_eq_true hi]; rfl⟩
  | false =>
   obtain ⟨j, h1, h2⟩ := idxP_some p q l (i + 1) (by omega) fun y hy => h y (List.mem_cons_of_mem _ hy)
   exact ⟨j, by simpa using h1, by simpa using h2⟩

theorem isPriv_f : ∀ (n : Nat) (w : ByteArray) (k : Nat), w.size ≤ n → w.size ≤ 60 → n + 210 < k → impl_isPrivileged.f k w = some (prv (n + 1) w) := by
 intro n
 induction n with
 | zero =>
  intro w k hn hw hk
  obtain ⟨k, rfl⟩ : ∃ m, k = m + 1 := ⟨k - 1, by omega⟩
  simp only [impl_isPrivileged.f]
  rw [if_pos (by omega), prv, decide_eq_true (by omega), Bool.true_or]
 | succ n ih =>
  intro w k hn hw hk
  obtain ⟨k, rfl⟩ : ∃ m, k = m + 1 := ⟨k - 1, by omega⟩
  simp only [impl_isPrivileged.f]
  rw [prv]
  by_cases h : w.size ≤ 1
  ·
   rw [if_pos h, decide_eq_true h, Bool.true_or]
  ·
   rw [if_neg h, decide_eq_false h, Bool.false_or, returns_f w hw (by omega) k (by omega)]
   simp only [Option.bind_some]
   obtain ⟨j, h1, h2⟩ := idxP_some (impl_isPrivileged.f k) (prv (n + 1)) ((retB w (w.size - 1) 1).map fun b => w.extract 0 b) 0 (by omega) (fun x hx => by
    obtain ⟨b, hb, rfl⟩ := List.mem_map.1 hx
    have hm := (retB_mem w b _ _).1 hb
    have hs := size_pre w b (by omega)
    exact ih _ k (by omega) (by omega) (by omega))
   rw [h1]
   simp only [Option.bind_some]
   rw [h2, List.any_map]
   rfl

theorem twice_loop (w : ByteArray) (hw : w.size ≤ 60) (b : Nat) (hb1 : 1 ≤ b) (hb2 : b < w.size) : ∀ (d k i : Nat), i + d + b = w.size → d < k → spec_l04Twice.l0 k w (b : Int) (i : Int) = some (decide (plcs w (w.extract 0 b) d i = [])) := by
 intro d
 induction d with
 | zero =>
  intro k i hd hk
  obtain ⟨k, rfl⟩ : ∃ n, k = n + 1 := ⟨k - 1, by omega⟩
  simp only [spec_l04Twice.l0]
  rw [wrap_nat (n := i + b) (by omega) (by omega), if_neg (by omega)]; rfl
 | succ d ih =>
  intro k i hd hk
  obtain ⟨k, rfl⟩ : ∃ n, k = n + 1 := ⟨k - 1, by omega⟩
  have hw1 : wrap64 ((i : Int) + 1) = ((i + 1 : Nat) : Int) := wrap_succ (by omega)
  have hs := size_pre w b (by omega)
  simp only [spec_l04Twice.l0]
  rw [wrap_nat (n := i + b) (by omega) (by omega), if_pos (by omega), if_pos (by omega), if_pos (by omega), if_pos (by omega), if_pos (by omega), if_pos (by omega)]
  simp only [Int.toNat_natCast]
  rw [plcs, hs]
  by_cases c : w.extract i (i + b) = w.extract 0 b
  ·
   rw [if_pos (by rw [c]), if_pos ⟨by omega, c⟩]; rfl
  ·
   rw [if_neg (fun e => c (ba_inj.1 e)), hw1, ih k (i + 1) (by omega) (by omega), if_neg (fun e => c e.2)]
theorem twice_f (w : ByteArray) (hw : w.size ≤ 60) (b : Nat) (hb1 : 1 ≤ b) (hb2 : b < w.size) (k : Nat) (hk : 60 < k) : spec_l04Twice.f k w (b : Int) = some (decide (mids w b = [])) :=
 twice_loop w hw b hb1 hb2 (w.size - b - 1) k 1 (by omega) (by omega)

theorem closed_f : ∀ (n : Nat) (w : ByteArray) (pv : Bool) (k : Nat), w.size ≤ n → w.size ≤ 60 → n * 100 + 200 < k → spec_l04Closed.f k w pv = some (if pv = true then prv (n + 1) w else clo w) := by
 intro n
 induction n with
 | zero =>
  intro w pv k hn hw hk
  obtain ⟨k, rfl⟩ : ∃ m, k = m + 1 := ⟨k - 1, by omega⟩
  simp only [spec_l04Closed.f]
  rw [if_pos (by omega), prv, clo, decide_eq_true (by omega), Bool.true_or, Bool.true_or]
  split <;> rfl
 | succ n ih =>
  intro w pv k hn hw hk
  have loop : ∀ (d k b : Nat), b + d = w.size → 1 ≤ b → n * 100 + 201 + d < k →
    spec_l04Closed.l0 k w pv (b : Int) = some ((retB w d b).any fun b => if pv = true then prv (n + 1) (w.extract 0 b) else true) := by
   intro d
   induction d with
   | zero =>
    intro k b hd hb hk
    obtain ⟨k, rfl⟩ : ∃ m, k = m + 1 := ⟨k - 1, by omega⟩
    simp only [spec_l04Closed.l0]
    rw [if_neg (by omega)]; rfl
   | succ d ihd =>
    intro k b hd hb hk
    obtain ⟨k, rfl⟩ : ∃ m, k = m + 1 := ⟨k - 1, by omega⟩
    have hw1 : wrap64 ((b : Int) + 1) = ((b + 1 : Nat) : Int) := wrap_succ (by omega)
    have hs : wrap64 ((w.size : Int) - (b : Int)) = ((w.size - b : Nat) : Int) := wrap_nat (by omega) (by omega)
    have hsz := size_pre w b (by omega)
    simp only [spec_l04Closed.l0]
    rw [if_pos (by omega), if_pos (by omega), if_pos (by omega), hs, if_pos (by omega), if_pos (by omega), Int.toNat_natCast, Int.toNat_natCast, hw1, ihd k (b + 1) (by omega) (by omega) (by omega), retB]
    by_cases c : w.extract (w.size - b) w.size = w.extract 0 b
    ·
     rw [if_pos (by rw [c]), twice_f w hw b hb (by omega) k (by omega)]
     simp only [Option.bind_some, decide_eq_true_eq]
     by_cases c2 : mids w b = []
     ·
      rw [if_pos c2, if_pos (show ret1 w b = true by unfold ret1; exact decide_eq_true ⟨c, c2⟩), List.any_cons]
      cases pv with
      | false => simp
      | true =>
       simp only [if_true]
       rw [ih _ true k (by omega) (by omega) (by omega)]
       simp only [Option.bind_some, if_true]
       cases prv (n + 1) (w.extract 0 b) <;> simp
     ·
      rw [if_neg c2, if_neg (show ¬ ret1 w b = true by unfold ret1; rw [decide_eq_false (fun h => c2 h.2)]; decide)]
    ·
     rw [if_neg (fun e => c (ba_inj.1 e).symm), if_neg (show ¬ ret1 w b = true by unfold ret1; rw [decide_eq_false (fun h => c h.1)]; decide)]
  obtain ⟨k, rfl⟩ : ∃ m, k = m + 1 := ⟨k - 1, by omega⟩
  simp only [spec_l04Closed.f]
  by_cases h : w.size ≤ 1
  ·
   rw [if_pos (by omega), prv, clo, decide_eq_true h, Bool.true_or, Bool.true_or]
   split <;> rfl
  ·
   rw [if_neg (by omega), prv, clo, decide_eq_false h, Bool.false_or, Bool.false_or]
   have hl := loop (w.size - 1) k 1 (by omega) (by omega) (by omega)
   rw [show ((1 : Nat) : Int) = 1 from rfl] at hl
   rw [hl]
   cases pv <;> rfl

end Go.Proofs.Ytjmcffejpgblfaa.PF

namespace Go.Proofs.Ytjmcffejpgblfaa.PF
open Go.RowKit Go.Proofs.YtjmcffejpgblfaaW.PrintWords Go.Proofs.YtjmcffejpgblfaaW.PrintLast Go.Proofs.YtjmcffejpgblfaaW.PrintMore
set_option linter.unusedVariables false
set_option linter.unusedSimpArgs false
set_option maxRecDepth 20000

/-- The ends of the first part of the word from place i on: the least number of parts, and the last end with which it is so. -/
def minR (w : ByteArray) (T : Nat → Int) (i : Nat) : Nat → Nat → Int × Int → Int × Int
 | 0, _, c => c
 | d + 1, m, c => minR w T i d (m + 1) (if isPal (w.extract i m) = true ∧ 1 + T m ≤ c.1 then (1 + T m, (m : Int)) else c)

/-- Both tables after d places from the end. -/
def tabs (w : ByteArray) : Nat → List Int × List Int
 | 0 => (List.replicate (w.size + 1) 0, List.replicate (w.size + 1) 0)
 | d + 1 =>
  let t := tabs w d
  let i := w.size - (d + 1)
  let c := minR w (fun j => rd t.1 (j : Int)) i (w.size - i) (i + 1) ((w.size : Int) + 1, rd t.2 (i : Int))
  (t.1.set i c.1, t.2.set i c.2)

theorem tabs_length (w : ByteArray) : ∀ d, (tabs w d).1.length = w.size + 1 ∧ (tabs w d).2.length = w.size + 1
 | 0 => by simp [tabs]
 | d + 1 => by
  have h := tabs_length w d
  simp only [tabs, List.length_set]
  exact h

theorem rd_set_ne (l : List Int) (i j : Nat) (x : Int) (h : i ≠ j) : rd (l.set i x) (j : Int) = rd l (j : Int) := by
 simp only [rd, Int.toNat_natCast, List.getD_eq_getElem?_getD]
 rw [List.getElem?_set_ne h]
theorem rd_set_eq (l : List Int) (i : Nat) (x : Int) (h : i < l.length) : rd (l.set i x) (i : Int) = x := by
 simp [rd, h]

/-- What is so of the least number and of the end that goes with it: some of the ends up to m have been looked at. -/
structure RowUp (w : ByteArray) (T : Nat → Int) (i m : Nat) (c : Int × Int) : Prop where
 lo : (i : Int) < c.2
 hi : c.2 < (m : Int)
 pal : isPal (w.extract i c.2.toNat) = true
 eq : 1 + T c.2.toNat = c.1
 best : ∀ e : Nat, i < e → e < m → isPal (w.extract i e) = true → c.1 ≤ 1 + T e ∧ (1 + T e = c.1 → (e : Int) ≤ c.2)

theorem minR_row (w : ByteArray) (T : Nat → Int) (i : Nat) : ∀ (d m : Nat) (c : Int × Int), RowUp w T i m c → RowUp w T i (m + d) (minR w T i d m c)
 | 0, m, c, h => h
 | d + 1, m, c, h => by
  rw [minR, show m + (d + 1) = (m + 1) + d by omega]
  refine minR_row w T i d (m + 1) _ ?_
  have him : (i : Int) < (m : Int) := by have := h.lo; have := h.hi; omega
  by_cases hc : isPal (w.extract i m) = true ∧ 1 + T m ≤ c.1
  ·
   rw [if_pos hc]
   refine ⟨him, by show (m : Int) < ((m + 1 : Nat) : Int); omega, by show isPal (w.extract i (m : Int).toNat) = true; rw [Int.toNat_natCast]; exact hc.1, by show 1 + T (m : Int).toNat = _; rw [Int.toNat_natCast], fun e h1 h2 h3 => ?_⟩
   by_cases hem : e = m
   ·
    subst hem; exact ⟨Int.le_refl _, fun _ => Int.le_refl _⟩
   ·
    have hb := h.best e h1 (by omega) h3
    exact ⟨by show 1 + T m ≤ _; omega, fun _ => by show (e : Int) ≤ (m : Int); omega⟩
  ·
   rw [if_neg hc]
   refine ⟨h.lo, by have := h.hi; omega, h.pal, h.eq, fun e h1 h2 h3 => ?_⟩
   by_cases hem : e = m
   ·
    subst hem
    have : ¬ 1 + T e ≤ c.1 := fun g => hc ⟨h3, g⟩
    exact ⟨by omega, fun g => by omega⟩
   ·
    exact h.best e h1 (by omega) h3

theorem one_pal (w : ByteArray) (i : Nat) (h : i < w.size) : isPal (w.extract i (i + 1)) = true := by
 have hs : (w.extract i (i + 1)).toList.length = 1 := by
  rw [toList_eq, Array.length_toList]; show (w.extract i (i + 1)).size = 1; rw [ByteArray.size_extract]; omega
 unfold isPal
 generalize (w.extract i (i + 1)).toList = l at hs
 match l, hs with
 | [x], _ => simp

/-- Place i of the tables is as it has to be. -/
def RowOk (w : ByteArray) (L E : List Int) (i : Nat) : Prop := RowUp w (fun j => rd L (j : Int)) i (w.size + 1) (rd L (i : Int), rd E (i : Int)) ∧ 0 ≤ rd L (i : Int) ∧ rd L (i : Int) ≤ (w.size : Int) - (i : Int)

theorem tabs_ok (w : ByteArray) : ∀ d, d ≤ w.size → rd (tabs w d).1 (w.size : Int) = 0 ∧ ∀ i, w.size - d ≤ i → i < w.size → RowOk w (tabs w d).1 (tabs w d).2 i := by
 intro d
 induction d with
 | zero =>
  intro hd
  refine ⟨?_, fun i h1 h2 => by omega⟩
  simp [tabs, rd]
 | succ d ih =>
  intro hd
  obtain ⟨h0, h1⟩ := ih (by omega)
  have hlen := tabs_length w d
  obtain ⟨i, hi⟩ : ∃ i, i = w.size - (d + 1) := ⟨_, rfl⟩
  simp only [tabs]
  rw [← hi]
  generalize (tabs w d).1 = L at h0 h1 hlen
  generalize (tabs w d).2 = E at h1 hlen
  have hT : ∀ j, i < j → j ≤ w.size → 0 ≤ rd L (j : Int) ∧ rd L (j : Int) ≤ (w.size : Int) - (j : Int) := fun j hj hj2 => by
   by_cases c : j = w.size
   ·
    subst c; rw [h0]; omega
   ·
    exact (h1 j (by omega) (by omega)).2
  have hstart : RowUp w (fun j => rd L (j : Int)) i (i + 2) (if isPal (w.extract i (i + 1)) = true ∧ 1 + rd L ((i + 1 : Nat) : Int) ≤ (w.size : Int) + 1 then (1 + rd L ((i + 1 : Nat) : Int), ((i + 1 : Nat) : Int)) else ((w.size : Int) + 1, rd E (i : Int))) := by
   have ht := hT (i + 1) (by omega) (by omega)
   rw [if_pos ⟨one_pal w i (by omega), by omega⟩]
   refine ⟨by show (i : Int) < ((i + 1 : Nat) : Int); omega, by show ((i + 1 : Nat) : Int) < ((i + 2 : Nat) : Int); omega, by show isPal (w.extract i ((i + 1 : Nat) : Int).toNat) = true; rw [Int.toNat_natCast]; exact one_pal w i (by omega), by show 1 + rd L ((((i + 1 : Nat) : Int).toNat : Nat) : Int) = _; rw [Int.toNat_natCast], fun e g1 g2 g3 => ?_⟩
   obtain rfl : e = i + 1 := by omega
   exact ⟨Int.le_refl _, fun _ => Int.le_refl _⟩
  have hrow := minR_row w (fun j => rd L (j : Int)) i (w.size - i - 1) (i + 2) _ hstart
  rw [show i + 2 + (w.size - i - 1) = w.size + 1 by omega] at hrow
  have hm : minR w (fun j => rd L (j : Int)) i (w.size - i) (i + 1) ((w.size : Int) + 1, rd E (i : Int)) = minR w (fun j => rd L (j : Int)) i (w.size - i - 1) (i + 2) (if isPal (w.extract i (i + 1)) = true ∧ 1 + rd L ((i + 1 : Nat) : Int) ≤ (w.size : Int) + 1 then (1 + rd L ((i + 1 : Nat) : Int), ((i + 1 : Nat) : Int)) else ((w.size : Int) + 1, rd E (i : Int))) := by
   rw [show w.size - i = (w.size - i - 1) + 1 by omega, minR]
   rfl
  rw [hm]
  generalize minR w (fun j => rd L (j : Int)) i (w.size - i - 1) (i + 2) _ = c at hrow
  obtain ⟨c1, c2⟩ := c
  refine ⟨by rw [rd_set_ne _ _ _ _ (by omega)]; exact h0, fun j hj1 hj2 => ?_⟩
  have hb1 := hrow.best (i + 1) (by omega) (by omega) (one_pal w i (by omega))
  have hq := hrow.eq
  have hlo := hrow.lo
  have hhi := hrow.hi
  simp only at hb1 hq hlo hhi
  have hbt := hT (i + 1) (by omega) (by omega)
  have hbe := hT c2.toNat (by omega) (by omega)
  by_cases hji : j = i
  ·
   subst hji
   unfold RowOk
   rw [rd_set_eq _ _ _ (by omega), rd_set_eq _ _ _ (by omega)]
   refine ⟨⟨hrow.lo, hrow.hi, hrow.pal, ?_, fun e g1 g2 g3 => ?_⟩, by omega, by omega⟩
   ·
    show 1 + rd (L.set j c1) (c2.toNat : Int) = c1
    rw [rd_set_ne _ _ _ _ (by omega)]; exact hq
   ·
    show c1 ≤ 1 + rd (L.set j c1) (e : Int) ∧ (1 + rd (L.set j c1) (e : Int) = c1 → _)
    rw [rd_set_ne _ _ _ _ (by omega)]; exact hrow.best e g1 g2 g3
  ·
   have hr := h1 j (by omega) hj2
   unfold RowOk at hr ⊢
   rw [rd_set_ne _ _ _ _ (fun e => hji e.symm), rd_set_ne _ _ _ _ (fun e => hji e.symm)]
   have hrl := hr.1.lo
   have hrq := hr.1.eq
   simp only at hrl hrq
   refine ⟨⟨hr.1.lo, hr.1.hi, hr.1.pal, ?_, fun e g1 g2 g3 => ?_⟩, hr.2⟩
   ·
    show 1 + rd (L.set i c1) (((rd E (j : Int)).toNat : Nat) : Int) = _
    rw [rd_set_ne _ _ _ _ (by omega)]; exact hrq
   ·
    show _ ≤ 1 + rd (L.set i c1) (e : Int) ∧ (1 + rd (L.set i c1) (e : Int) = _ → _)
    rw [rd_set_ne _ _ _ _ (by omega)]; exact hr.1.best e g1 g2 g3

end Go.Proofs.Ytjmcffejpgblfaa.PF

namespace Go.Proofs.Ytjmcffejpgblfaa.PF
open Go.RowKit Go.Proofs.YtjmcffejpgblfaaW.PrintWords Go.Proofs.YtjmcffejpgblfaaW.PrintLast Go.Proofs.YtjmcffejpgblfaaW.PrintMore
set_option linter.unusedVariables false
set_option linter.unusedSimpArgs false
set_option maxRecDepth 20000

theorem mn_le (a b : Int) (h : b ≤ a) : mn a b = b := by unfold mn; split <;> omega
theorem mn_ge (a b : Int) (h : ¬ b ≤ a) : mn a b = a := by unfold mn; split <;> omega

theorem minR_bound (w : ByteArray) (T : Nat → Int) (i : Nat) (b : Int) : ∀ (d m : Nat) (c : Int × Int), 0 ≤ c.1 → c.1 ≤ b → (∀ j, m ≤ j → j < m + d → 0 ≤ T j) → 0 ≤ (minR w T i d m c).1 ∧ (minR w T i d m c).1 ≤ b
 | 0, _, c, h0, h1, _ => ⟨h0, h1⟩
 | d + 1, m, c, h0, h1, h => by
  rw [minR]
  have hm := h m (Nat.le_refl _) (by omega)
  have h' : ∀ j, m + 1 ≤ j → j < m + 1 + d → 0 ≤ T j := fun j g1 g2 => h j (by omega) (by omega)
  by_cases hc : isPal (w.extract i m) = true ∧ 1 + T m ≤ c.1
  ·
   rw [if_pos hc]; exact minR_bound w T i b d (m + 1) _ (by show 0 ≤ 1 + T m; omega) (by show 1 + T m ≤ b; omega) h'
  ·
   rw [if_neg hc]; exact minR_bound w T i b d (m + 1) _ h0 h1 h'

theorem set_set (l : List Int) (i : Nat) (x y : Int) : (l.set i x).set i y = l.set i y := List.set_set ..

/-- One row of the program's table. -/
theorem impl_row (w : ByteArray) (hw : w.size ≤ 60) (L E : List Int) (hL : L.length = w.size + 1) (hE : E.length = w.size + 1) (i : Nat) (hi : i < w.size) (f : Nat → Int) (hf : ∀ j : Nat, rd L (j : Int) = f j) (hT : ∀ j : Nat, i < j → j ≤ w.size → 0 ≤ f j ∧ f j ≤ 1000) :
  ∀ (d k m : Nat) (c : Int × Int), m + d = w.size + 1 → i < m → 0 ≤ c.1 → c.1 ≤ 1000 → 100 < k →
  impl_FewestParts.l1 (k + d + 1) w (w.size : Int) (L.set i c.1) (E.set i c.2) (i : Int) (m : Int) =
   impl_FewestParts.l0 k w (w.size : Int) (L.set i (minR w f i d m c).1) (E.set i (minR w f i d m c).2) ((i : Int) - 1) := by
 intro d
 induction d with
 | zero =>
  intro k m c hd hm h0 h1 hk
  simp only [impl_FewestParts.l1]
  rw [if_neg (by omega), wrap_id (by omega) (by omega)]; rfl
 | succ d ih =>
  intro k m c hd hm h0 h1 hk
  obtain ⟨c1, c2⟩ := c
  simp only at h0 h1
  obtain ⟨q, hq⟩ : ∃ q, q = k + d + 1 := ⟨_, rfl⟩
  have hms : m ≤ w.size := by omega
  have hTm := hT m hm hms
  have a1 : (m : Int) ≤ (w.size : Int) := by omega
  have a2 : (0 : Int) ≤ (i : Int) := by omega
  have a3 : (i : Int) ≤ (m : Int) := by omega
  have a4 : (0 : Int) ≤ (m : Int) := by omega
  have a5 : (m : Int) < (L.length : Int) := by omega
  have a6 : (i : Int) < (L.length : Int) := by omega
  have a7 : i < L.length := by omega
  have a8 : i ≠ m := by omega
  have a9 : (i : Int) < (E.length : Int) := by omega
  have n1 : m + 1 + d = w.size + 1 := by omega
  have n2 : i < m + 1 := by omega
  have n3 : 0 ≤ 1 + f m := by omega
  have n5 : 1 + f m ≤ 9223372036854775807 := by omega
  have n6 : -9223372036854775808 ≤ 1 + f m := by omega
  have hsz : (w.extract i m).size ≤ 1000000 := by rw [ByteArray.size_extract]; omega
  have hsz2 : (w.extract i m).size < q := by rw [ByteArray.size_extract]; omega
  have hw1 : wrap64 ((m : Int) + 1) = ((m + 1 : Nat) : Int) := wrap_succ (by omega)
  rw [show k + (d + 1) + 1 = q + 1 by rw [hq]; rfl]
  simp only [impl_FewestParts.l1]
  rw [if_pos a1, if_pos a2, if_pos a3, if_pos a1, Int.toNat_natCast, Int.toNat_natCast, isPal_f _ hsz, hw1, rd_set_ne _ _ _ _ a8, rd_set_eq _ _ _ a7, hf]
  simp only [Option.bind_some, List.length_set]
  rw [minR]
  subst hq
  by_cases hp : isPal (w.extract i m) = true
  ·
   rw [if_pos hp, if_pos a4, if_pos a5, if_pos a6, wrap_id n6 n5]
   by_cases hc : 1 + f m ≤ c1
   ·
    rw [if_pos hc, if_pos a9, if_pos ⟨hp, hc⟩, set_set, set_set]
    exact ih k (m + 1) (1 + f m, (m : Int)) n1 n2 n3 (Int.le_trans hc h1) hk
   ·
    rw [if_neg hc, if_neg (fun h => hc h.2)]
    exact ih k (m + 1) (c1, c2) n1 n2 h0 h1 hk
  ·
   rw [if_neg hp, if_neg (fun h => hp h.1)]
   exact ih k (m + 1) (c1, c2) n1 n2 h0 h1 hk

/-- One row of the reference's table. -/
theorem spec_row (w : ByteArray) (hw : w.size ≤ 60) (L : List Int) (hL : L.length = w.size + 1) (i : Nat) (hi : i < w.size) (f : Nat → Int) (hf : ∀ j : Nat, rd L (j : Int) = f j) (hT : ∀ j : Nat, i < j → j ≤ w.size → 0 ≤ f j ∧ f j ≤ 1000) :
  ∀ (d k m : Nat) (c : Int × Int), m + d = w.size + 1 → i < m → 0 ≤ c.1 → c.1 ≤ 1000 → 100 < k →
  spec_FewestParts.l1 (k + d + 1) w (w.size : Int) (L.set i c.1) (i : Int) (m : Int) =
   spec_FewestParts.l0 k w (w.size : Int) (L.set i (minR w f i d m c).1) ((i : Int) - 1) := by
 intro d
 induction d with
 | zero =>
  intro k m c hd hm h0 h1 hk
  simp only [spec_FewestParts.l1]
  rw [if_neg (by omega), wrap_id (by omega) (by omega)]; rfl
 | succ d ih =>
  intro k m c hd hm h0 h1 hk
  obtain ⟨c1, c2⟩ := c
  simp only at h0 h1
  obtain ⟨q, hq⟩ : ∃ q, q = k + d + 1 := ⟨_, rfl⟩
  have hms : m ≤ w.size := by omega
  have hTm := hT m hm hms
  have a1 : (m : Int) ≤ (w.size : Int) := by omega
  have a2 : (0 : Int) ≤ (i : Int) := by omega
  have a3 : (i : Int) ≤ (m : Int) := by omega
  have a4 : (0 : Int) ≤ (m : Int) := by omega
  have a5 : (m : Int) < (L.length : Int) := by omega
  have a6 : (i : Int) < (L.length : Int) := by omega
  have a7 : i < L.length := by omega
  have a8 : i ≠ m := by omega
  have a9 := a6
  have n1 : m + 1 + d = w.size + 1 := by omega
  have n2 : i < m + 1 := by omega
  have n3 : 0 ≤ 1 + f m := by omega
  have n5 : 1 + f m ≤ 9223372036854775807 := by omega
  have n6 : -9223372036854775808 ≤ 1 + f m := by omega
  have hsz : (w.extract i m).size ≤ 1000000 := by rw [ByteArray.size_extract]; omega
  have hsz2 : (w.extract i m).size < q := by rw [ByteArray.size_extract]; omega
  have hw1 : wrap64 ((m : Int) + 1) = ((m + 1 : Nat) : Int) := wrap_succ (by omega)
  rw [show k + (d + 1) + 1 = q + 1 by rw [hq]; rfl]
  simp only [spec_FewestParts.l1]
  rw [if_pos a1, if_pos a2, if_pos a3, if_pos a1, Int.toNat_natCast, Int.toNat_natCast, l04Is_f _ hsz q hsz2, hw1, rd_set_ne _ _ _ _ a8, rd_set_eq _ _ _ a7, hf]
  simp only [Option.bind_some, List.length_set]
  rw [minR]
  subst hq
  by_cases hp : isPal (w.extract i m) = true
  ·
   rw [if_pos hp, if_pos a6, if_pos a4, if_pos a5, wrap_id n6 n5, set_set]
   by_cases hc : 1 + f m ≤ c1
   ·
    rw [mn_le _ _ hc, if_pos ⟨hp, hc⟩]
    exact ih k (m + 1) (1 + f m, (m : Int)) n1 n2 n3 (Int.le_trans hc h1) hk
   ·
    rw [mn_ge _ _ hc, if_neg (fun h => hc h.2)]
    exact ih k (m + 1) (c1, c2) n1 n2 h0 h1 hk
  ·
   rw [if_neg hp, if_neg (fun h => hp h.1)]
   exact ih k (m + 1) (c1, c2) n1 n2 h0 h1 hk

theorem tabs_small (w : ByteArray) (hw : w.size ≤ 60) (d : Nat) (hd : d ≤ w.size) (j : Nat) (h1 : w.size - d ≤ j) (h2 : j ≤ w.size) : 0 ≤ rd (tabs w d).1 (j : Int) ∧ rd (tabs w d).1 (j : Int) ≤ 1000 := by
 obtain ⟨h0, h⟩ := tabs_ok w d hd
 by_cases c : j = w.size
 ·
  subst c; rw [h0]; omega
 ·
  have := (h j h1 (by omega)).2; omega

theorem set_rd_self (l : List Int) (i : Nat) (h : i < l.length) : l.set i (rd l (i : Int)) = l := by
 rw [rd_nat l i h]; exact List.set_getElem_self h

theorem impl_rows (w : ByteArray) (hw : w.size ≤ 60) (X : Nat) (hX : 200 ≤ X) : ∀ (e d k : Nat), e + d = w.size → e * 100 + X < k →
  ∃ k', X < k' ∧ impl_FewestParts.l0 k w (w.size : Int) (tabs w d).1 (tabs w d).2 ((e : Int) - 1) = impl_FewestParts.l0 k' w (w.size : Int) (tabs w w.size).1 (tabs w w.size).2 (-1) := by
 intro e
 induction e with
 | zero =>
  intro d k hd hk
  obtain rfl : d = w.size := by omega
  exact ⟨k, by omega, rfl⟩
 | succ e ih =>
  intro d k hd hk
  have hlen := tabs_length w d
  have hie : w.size - (d + 1) = e := by omega
  obtain ⟨k, rfl⟩ : ∃ n, k = (n + (w.size - e) + 1) + 1 := ⟨k - (w.size - e) - 2, by omega⟩
  obtain ⟨q, hq⟩ : ∃ q, q = k + (w.size - e) + 1 := ⟨_, rfl⟩
  have hrow := impl_row w hw (tabs w d).1 (tabs w d).2 hlen.1 hlen.2 e (by omega) _ (fun j => rfl) (fun j h1 h2 => tabs_small w hw d (by omega) j (by omega) h2) (w.size - e) k (e + 1) ((w.size : Int) + 1, rd (tabs w d).2 (e : Int)) (by omega) (by omega) (by show (0 : Int) ≤ (w.size : Int) + 1; omega) (by show (w.size : Int) + 1 ≤ 1000; omega) (by omega)
  simp only at hrow
  rw [set_rd_self _ _ (by omega)] at hrow
  have hnext : tabs w (d + 1) = ((tabs w d).1.set e (minR w (fun j => rd (tabs w d).1 (j : Int)) e (w.size - e) (e + 1) ((w.size : Int) + 1, rd (tabs w d).2 (e : Int))).1, (tabs w d).2.set e (minR w (fun j => rd (tabs w d).1 (j : Int)) e (w.size - e) (e + 1) ((w.size : Int) + 1, rd (tabs w d).2 (e : Int))).2) := by
   simp only [tabs]; rw [hie]
  obtain ⟨k', h1, h2⟩ := ih (d + 1) k (by omega) (by omega)
  refine ⟨k', by omega, ?_⟩
  rw [← h2, hnext]
  rw [← hq] at hrow ⊢
  simp only [impl_FewestParts.l0]
  rw [show ((e + 1 : Nat) : Int) - 1 = (e : Int) by omega, if_pos (by omega), if_pos (by omega), if_pos (by omega), Int.toNat_natCast, wrap_id (x := (w.size : Int) + 1) (by omega) (by omega), show wrap64 ((e : Int) + 1) = ((e + 1 : Nat) : Int) from wrap_succ (by omega), hrow]

theorem spec_rows (w : ByteArray) (hw : w.size ≤ 60) (X : Nat) (hX : 200 ≤ X) : ∀ (e d k : Nat), e + d = w.size → e * 100 + X < k →
  ∃ k', X < k' ∧ spec_FewestParts.l0 k w (w.size : Int) (tabs w d).1 ((e : Int) - 1) = spec_FewestParts.l0 k' w (w.size : Int) (tabs w w.size).1 (-1) := by
 intro e
 induction e with
 | zero =>
  intro d k hd hk
  obtain rfl : d = w.size := by omega
  exact ⟨k, by omega, rfl⟩
 | succ e ih =>
  intro d k hd hk
  have hlen := tabs_length w d
  have hie : w.size - (d + 1) = e := by omega
  obtain ⟨k, rfl⟩ : ∃ n, k = (n + (w.size - e) + 1) + 1 := ⟨k - (w.size - e) - 2, by omega⟩
  obtain ⟨q, hq⟩ : ∃ q, q = k + (w.size - e) + 1 := ⟨_, rfl⟩
  have hrow := spec_row w hw (tabs w d).1 hlen.1 e (by omega) _ (fun j => rfl) (fun j h1 h2 => tabs_small w hw d (by omega) j (by omega) h2) (w.size - e) k (e + 1) ((w.size : Int) + 1, rd (tabs w d).2 (e : Int)) (by omega) (by omega) (by show (0 : Int) ≤ (w.size : Int) + 1; omega) (by show (w.size : Int) + 1 ≤ 1000; omega) (by omega)
  simp only at hrow
  have hnext : (tabs w (d + 1)).1 = (tabs w d).1.set e (minR w (fun j => rd (tabs w d).1 (j : Int)) e (w.size - e) (e + 1) ((w.size : Int) + 1, rd (tabs w d).2 (e : Int))).1 := by
   simp only [tabs]; rw [hie]
  obtain ⟨k', h1, h2⟩ := ih (d + 1) k (by omega) (by omega)
  refine ⟨k', by omega, ?_⟩
  rw [← h2, hnext]
  rw [← hq] at hrow ⊢
  simp only [spec_FewestParts.l0]
  rw [show ((e + 1 : Nat) : Int) - 1 = (e : Int) by omega, if_pos (by omega), if_pos (by omega), if_pos (by omega), Int.toNat_natCast, wrap_id (x := (w.size : Int) + 1) (by omega) (by omega), show wrap64 ((e : Int) + 1) = ((e + 1 : Nat) : Int) from wrap_succ (by omega), hrow]

/-- The parts that the table of ends cuts out. -/
def cuts (w : ByteArray) (E : List Int) : Nat → Nat → List ByteArray
 | 0, _ => []
 | d + 1, i => if i < w.size then w.extract i (rd E (i : Int)).toNat :: cuts w E d (rd E (i : Int)).toNat else []
theorem cuts_length (w : ByteArray) (E : List Int) : ∀ d i, (cuts w E d i).length ≤ d
 | 0, _ => Nat.le_refl _
 | d + 1, i => by
  rw [cuts]; split
  ·
   have := cuts_length w E d (rd E (i : Int)).toNat
   rw [List.length_cons]; omega
  ·
   exact Nat.zero_le _

theorem impl_cut (w : ByteArray) (hw : w.size ≤ 60) (L E : List Int) (hE : E.length = w.size + 1) (hok : ∀ i, i < w.size → RowOk w L E i) : ∀ (d k i : Nat) (acc : List ByteArray), w.size < i + d → acc.length ≤ i → i ≤ w.size → d < k →
  impl_FewestParts.l2 k w (w.size : Int) E acc (i : Int) = some (acc ++ cuts w E d i, 0) := by
 intro d
 induction d with
 | zero => intro k i acc hd ha hi hk; omega
 | succ d ih =>
  intro k i acc hd ha hi hk
  obtain ⟨k, rfl⟩ : ∃ n, k = n + 1 := ⟨k - 1, by omega⟩
  simp only [impl_FewestParts.l2]
  rw [cuts]
  by_cases h : i < w.size
  ·
   have hr := hok i h
   have hlo := hr.1.lo
   have hhi := hr.1.hi
   simp only at hlo hhi
   rw [if_pos (by omega), if_pos (by omega), if_pos (by omega), if_pos (by omega), if_pos (by omega), if_pos (by omega), if_pos h, Int.toNat_natCast]
   obtain ⟨j, hj⟩ : ∃ j : Nat, rd E (i : Int) = j := ⟨(rd E (i : Int)).toNat, by omega⟩
   rw [hj, Int.toNat_natCast, ih k j _ (by omega) (by simp; omega) (by omega) (by omega)]
   simp
  ·
   rw [if_neg (by omega), if_neg h]; simp

theorem spec_find (w : ByteArray) (hw : w.size ≤ 60) (L : List Int) (hL : L.length = w.size + 1) (f : Nat → Int) (hf : ∀ j : Nat, rd L (j : Int) = f j) (hs : ∀ j : Nat, j ≤ w.size → 0 ≤ f j ∧ f j ≤ 1000) (i j : Nat) (hi : i < w.size) (hlo : i < j) (hhi : j ≤ w.size)
  (hpal : isPal (w.extract i j) = true) (heq : f i = 1 + f j) (hbest : ∀ e : Nat, i < e → e < w.size + 1 → isPal (w.extract i e) = true → f i = 1 + f e → e ≤ j) (acc : List ByteArray) (ha : acc.length ≤ 100) :
  ∀ (d k : Nat), j + d ≤ w.size → 100 < k → spec_FewestParts.l3 (k + d + 1) w (w.size : Int) L acc (i : Int) ((j + d : Nat) : Int) = spec_FewestParts.l2 k w (w.size : Int) L (acc ++ [w.extract i j]) (j : Int) := by
 have hlen : acc.length < 8796093022208 := by omega
 intro d
 induction d with
 | zero =>
  intro k hd hk
  have hsz : (w.extract i j).size ≤ 1000000 := by rw [ByteArray.size_extract]; omega
  have hsz2 : (w.extract i j).size < k := by rw [ByteArray.size_extract]; omega
  have hsj := hs j hhi
  have a1 : (j : Int) > (i : Int) := by omega
  have a2 : (0 : Int) ≤ (i : Int) := by omega
  have a3 : (i : Int) ≤ (j : Int) := by omega
  have a4 : (j : Int) ≤ (w.size : Int) := by omega
  have a5 : (i : Int) < (L.length : Int) := by omega
  have a6 : (0 : Int) ≤ (j : Int) := by omega
  have a7 : (j : Int) < (L.length : Int) := by omega
  have n5 : 1 + f j ≤ 9223372036854775807 := by omega
  have n6 : -9223372036854775808 ≤ 1 + f j := by omega
  simp only [Nat.add_zero, spec_FewestParts.l3]
  rw [if_pos a1, if_pos a2, if_pos a3, if_pos a4, Int.toNat_natCast, Int.toNat_natCast, l04Is_f _ hsz k hsz2]
  simp only [Option.bind_some]
  rw [if_pos hpal, if_pos a5, if_pos a6, if_pos a7, hf, hf, wrap_id n6 n5, if_pos heq, if_pos hlen]
 | succ d ih =>
  intro k hd hk
  obtain ⟨q, hq⟩ : ∃ q, q = k + d + 1 := ⟨_, rfl⟩
  obtain ⟨m, hm⟩ : ∃ m, m = j + (d + 1) := ⟨_, rfl⟩
  have hsj := hs m (by omega)
  have hsz : (w.extract i m).size ≤ 1000000 := by rw [ByteArray.size_extract]; omega
  have hsz2 : (w.extract i m).size < q := by rw [ByteArray.size_extract]; omega
  have a1 : (m : Int) > (i : Int) := by omega
  have a2 : (0 : Int) ≤ (i : Int) := by omega
  have a3 : (i : Int) ≤ (m : Int) := by omega
  have a4 : (m : Int) ≤ (w.size : Int) := by omega
  have a5 : (i : Int) < (L.length : Int) := by omega
  have a6 : (0 : Int) ≤ (m : Int) := by omega
  have a7 : (m : Int) < (L.length : Int) := by omega
  have n5 : 1 + f m ≤ 9223372036854775807 := by omega
  have n6 : -9223372036854775808 ≤ 1 + f m := by omega
  have b1 : i < m := by omega
  have b2 : m < w.size + 1 := by omega
  have b3 : ¬ m ≤ j := by omega
  have hih := ih k (by omega) hk
  have hw1 : wrap64 ((m : Int) - 1) = ((j + d : Nat) : Int) := wrap_nat (by omega) (by omega)
  rw [← hq] at hih
  rw [← hm, show k + (d + 1) + 1 = q + 1 by rw [hq]; rfl]
  simp only [spec_FewestParts.l3]
  rw [if_pos a1, if_pos a2, if_pos a3, if_pos a4, Int.toNat_natCast, Int.toNat_natCast, l04Is_f _ hsz q hsz2, hw1]
  simp only [Option.bind_some]
  by_cases hp : isPal (w.extract i m) = true
  ·
   rw [if_pos hp, if_pos a5, if_pos a6, if_pos a7, hf, hf, wrap_id n6 n5, if_neg (fun e => b3 (hbest m b1 b2 hp e))]
   exact hih
  ·
   rw [if_neg hp]; exact hih

theorem spec_cut (w : ByteArray) (hw : w.size ≤ 60) (L E : List Int) (hL : L.length = w.size + 1) (hok : ∀ i, i < w.size → RowOk w L E i) (hs : ∀ j : Nat, j ≤ w.size → 0 ≤ rd L (j : Int) ∧ rd L (j : Int) ≤ 1000) : ∀ (d k i : Nat) (acc : List ByteArray), w.size < i + d → acc.length ≤ i → i ≤ w.size → d * 100 + 200 < k →
  spec_FewestParts.l2 k w (w.size : Int) L acc (i : Int) = some (acc ++ cuts w E d i, 0) := by
 intro d
 induction d with
 | zero => intro k i acc hd ha hi hk; omega
 | succ d ih =>
  intro k i acc hd ha hi hk
  rw [cuts]
  by_cases h : i < w.size
  ·
   obtain ⟨j, hj, hlo, hhi, hpal, heq, hbest⟩ : ∃ j : Nat, rd E (i : Int) = j ∧ i < j ∧ j ≤ w.size ∧ isPal (w.extract i j) = true ∧ rd L (i : Int) = 1 + rd L (j : Int) ∧ (∀ e : Nat, i < e → e < w.size + 1 → isPal (w.extract i e) = true → rd L (i : Int) = 1 + rd L (e : Int) → e ≤ j) := by
    have hr := (hok i h).1
    have hlo := hr.lo
    have hhi := hr.hi
    have hpal := hr.pal
    have heq := hr.eq
    have hbest := hr.best
    simp only at hlo hhi hpal heq hbest
    generalize rd E (i : Int) = x at hlo hhi hpal heq hbest
    obtain ⟨j, rfl⟩ : ∃ j : Nat, x = j := ⟨x.toNat, by omega⟩
    rw [Int.toNat_natCast] at hpal heq
    exact ⟨j, rfl, Int.ofNat_lt.1 hlo, Nat.lt_succ_iff.1 (Int.ofNat_lt.1 hhi), hpal, heq.symm, fun e h1 h2 h3 h4 => Int.ofNat_le.1 ((hbest e h1 h2 h3).2 h4.symm)⟩
   obtain ⟨k, rfl⟩ : ∃ n, k = (n + (w.size - j) + 1) + 1 := ⟨k - (w.size - j) - 2, by omega⟩
   have hf := spec_find w hw L hL (fun j => rd L (j : Int)) (fun _ => rfl) hs i j h hlo hhi hpal heq hbest acc (by omega) (w.size - j) k (by omega) (by omega)
   rw [show j + (w.size - j) = w.size by omega] at hf
   have hih := ih k j (acc ++ [w.extract i j]) (by omega) (by rw [List.length_append]; show acc.length + 1 ≤ j; omega) hhi (by omega)
   have hz : (i : Int) < (w.size : Int) := by omega
   obtain ⟨q, hq⟩ : ∃ q, q = k + (w.size - j) + 1 := ⟨_, rfl⟩
   rw [← hq] at hf ⊢
   simp only [spec_FewestParts.l2]
   rw [if_pos hz, hf, if_pos h, hj, Int.toNat_natCast, hih, List.append_assoc]
   rfl
  ·
   obtain ⟨k, rfl⟩ : ∃ n, k = n + 1 := ⟨k - 1, by omega⟩
   simp only [spec_FewestParts.l2]
   rw [if_neg (by omega), if_neg h, List.append_nil]

/-- The parts. -/
def partsW (w : ByteArray) : List ByteArray := cuts w (tabs w w.size).2 (w.size + 1) 0
theorem partsW_length (w : ByteArray) (hw : w.size ≤ 60) : (partsW w).length ≤ 61 := by have := cuts_length w (tabs w w.size).2 (w.size + 1) 0; unfold partsW; omega

theorem impl_fewest (w : ByteArray) (hw : w.size ≤ 60) (k : Nat) (hk : 20000 < k) : impl_FewestParts.l0 k w (w.size : Int) (List.replicate (w.size + 1) 0) (List.replicate (w.size + 1) 0) ((w.size : Int) - 1) = some (partsW w, 0) := by
 have hlen := tabs_length w w.size
 obtain ⟨_, hok⟩ := tabs_ok w w.size (Nat.le_refl _)
 obtain ⟨k', h1, h2⟩ := impl_rows w hw 8000 (by omega) w.size 0 k (by omega) (by omega)
 simp only [tabs] at h2
 rw [h2]
 obtain ⟨k', rfl⟩ : ∃ n, k' = n + 1 := ⟨k' - 1, by omega⟩
 simp only [impl_FewestParts.l0]
 rw [if_neg (by omega)]
 exact impl_cut w hw _ _ hlen.2 (fun i hi => hok i (by omega) hi) (w.size + 1) k' 0 [] (by omega) (by simp) (by omega) (by omega)
theorem spec_fewest (w : ByteArray) (hw : w.size ≤ 60) (k : Nat) (hk : 20000 < k) : spec_FewestParts.l0 k w (w.size : Int) (List.replicate (w.size + 1) 0) ((w.size : Int) - 1) = some (partsW w, 0) := by
 have hlen := tabs_length w w.size
 obtain ⟨_, hok⟩ := tabs_ok w w.size (Nat.le_refl _)
 obtain ⟨k', h1, h2⟩ := spec_rows w hw 8000 (by omega) w.size 0 k (by omega) (by omega)
 simp only [tabs] at h2
 rw [h2]
 obtain ⟨k', rfl⟩ : ∃ n, k' = n + 1 := ⟨k' - 1, by omega⟩
 simp only [spec_FewestParts.l0]
 rw [if_neg (by omega)]
 exact spec_cut w hw _ _ hlen.1 (fun i hi => hok i (by omega) hi) (fun j hj => tabs_small w hw w.size (Nat.le_refl _) j (by omega) hj) (w.size + 1) k' 0 [] (by omega) (by simp) (by omega) (by omega)

end Go.Proofs.Ytjmcffejpgblfaa.PF

namespace Go.Proofs.Ytjmcffejpgblfaa.PF
open Go.RowKit Go.Proofs.YtjmcffejpgblfaaW.PrintWords Go.Proofs.YtjmcffejpgblfaaW.PrintLast Go.Proofs.YtjmcffejpgblfaaW.PrintMore
set_option linter.unusedVariables false
set_option linter.unusedSimpArgs false
set_option maxRecDepth 20000

/-- How many words of a list are as told. -/
def cntB (q : ByteArray → Bool) : List ByteArray → Nat
 | [] => 0
 | x :: l => (if q x = true then 1 else 0) + cntB q l
theorem cntB_le (q : ByteArray → Bool) : ∀ l, cntB q l ≤ l.length
 | [] => Nat.le_refl _
 | x :: l => by have := cntB_le q l; rw [cntB, List.length_cons]; split <;> omega
/-- The numbers of closed and of privileged factors, from a length on. -/
def ccF (P : ByteArray → Bool) (w : ByteArray) : Nat → Nat → Nat → Nat → Int × Int × Int
 | 0, _, c, p => ((c : Int), (p : Int), 0)
 | d + 1, m, c, p => ccF P w d (m + 1) (c + cntB clo (fac w m)) (p + cntB P (fac w m))
theorem impl_cc1 (P : ByteArray → Bool) (hP : ∀ (x : ByteArray) (k : Nat), x.size ≤ 60 → 300 < k → impl_isPrivileged.f k x = some (P x)) (w : ByteArray) (hw : w.size ≤ 60) (m : Nat) (l : List ByteArray) (hl : ∀ x ∈ l, x.size ≤ 60) (hll : l.length ≤ 100) : ∀ (d k i c p : Nat), i + d = l.length → c + d ≤ 100000 → p + d ≤ 100000 → m ≤ 100 → 400 < k →
  impl_CountClosed.l1 (k + d + 1) w (c : Int) (p : Int) (m : Int) l (l.length : Int) (i : Int) = impl_CountClosed.l0 k w ((c + cntB clo (l.drop i) : Nat) : Int) ((p + cntB P (l.drop i) : Nat) : Int) ((m + 1 : Nat) : Int) := by
 intro d
 induction d with
 | zero =>
  intro k i c p hd hc hp hm hk
  simp only [impl_CountClosed.l1]
  rw [if_neg (by omega), List.drop_eq_nil_of_le (by omega), wrap_succ (by omega)]; rfl
 | succ d ih =>
  intro k i c p hd hc hp hm hk
  obtain ⟨q, hq⟩ : ∃ q, q = k + d + 1 := ⟨_, rfl⟩
  rw [show k + (d + 1) + 1 = q + 1 by omega]
  have hx : l[i]'(by omega) ∈ l := List.getElem_mem _
  have hs := hl _ hx
  simp only [impl_CountClosed.l1]
  rw [if_pos (by omega), if_pos (by omega), if_pos (by omega), rdOf_nat _ l i (by omega), isClosed_f _ hs q (by omega)]
  simp only [Option.bind_some]
  rw [hP _ q hs (by omega), List.drop_eq_getElem_cons (by omega : i < l.length)]
  simp only [Option.bind_some, cntB]
  have hw1 : wrap64 ((i : Int) + 1) = ((i + 1 : Nat) : Int) := wrap_succ (by omega)
  have hwc : wrap64 ((c : Int) + 1) = ((c + 1 : Nat) : Int) := wrap_succ (by omega)
  have hwp : wrap64 ((p : Int) + 1) = ((p + 1 : Nat) : Int) := wrap_succ (by omega)
  rw [hw1, hwc, hwp]
  subst hq
  have e1 : c + 1 + cntB clo (l.drop (i + 1)) = c + (1 + cntB clo (l.drop (i + 1))) := by omega
  have e2 : p + 1 + cntB P (l.drop (i + 1)) = p + (1 + cntB P (l.drop (i + 1))) := by omega
  have g1 : i + 1 + d = l.length := by omega
  have g2 : c + d ≤ 100000 := Nat.le_of_succ_le hc
  have g3 : c + 1 + d ≤ 100000 := by rw [Nat.add_right_comm]; exact hc
  have g4 : p + d ≤ 100000 := Nat.le_of_succ_le hp
  have g5 : p + 1 + d ≤ 100000 := by rw [Nat.add_right_comm]; exact hp
  clear hw1 hwc hwp
  cases h1 : clo l[i] <;> cases h2 : P l[i]
  ·
   simp only [Bool.false_eq_true, if_false, Nat.zero_add]; exact ih k (i + 1) c p g1 g2 g4 hm hk
  ·
   simp only [Bool.false_eq_true, if_false, if_true, Nat.zero_add]; rw [ih k (i + 1) c (p + 1) g1 g2 g5 hm hk, e2]
  ·
   simp only [Bool.false_eq_true, if_false, if_true, Nat.zero_add]; rw [ih k (i + 1) (c + 1) p g1 g3 g4 hm hk, e1]
  ·
   simp only [if_true]; rw [ih k (i + 1) (c + 1) (p + 1) g1 g3 g5 hm hk, e1, e2]
theorem spec_cc2 (P : ByteArray → Bool) (hP : ∀ (x : ByteArray) (k : Nat), x.size ≤ 60 → 6500 < k → spec_l04Closed.f k x true = some (P x)) (w : ByteArray) (hw : w.size ≤ 60) (m : Nat) (l : List ByteArray) (hl : ∀ x ∈ l, x.size ≤ 60) (hll : l.length ≤ 100) : ∀ (d k i c p : Nat), i + d = l.length → c + d ≤ 100000 → p + d ≤ 100000 → m ≤ 100 → 7000 < k →
  spec_CountClosed.l2 (k + d + 1) w (c : Int) (p : Int) (m : Int) l (i : Int) = spec_CountClosed.l0 k w ((c + cntB clo (l.drop i) : Nat) : Int) ((p + cntB P (l.drop i) : Nat) : Int) ((m + 1 : Nat) : Int) := by
 intro d
 induction d with
 | zero =>
  intro k i c p hd hc hp hm hk
  simp only [spec_CountClosed.l2]
  rw [if_neg (by omega), List.drop_eq_nil_of_le (by omega), wrap_succ (by omega)]; rfl
 | succ d ih =>
  intro k i c p hd hc hp hm hk
  obtain ⟨q, hq⟩ : ∃ q, q = k + d + 1 := ⟨_, rfl⟩
  rw [show k + (d + 1) + 1 = q + 1 by omega]
  have hx : l[i]'(by omega) ∈ l := List.getElem_mem _
  have hs := hl _ hx
  simp only [spec_CountClosed.l2]
  rw [if_pos (by omega), if_pos (by omega), rdOf_nat _ l i (by omega), closed_f 60 _ false q hs hs (by omega)]
  simp only [Option.bind_some]
  rw [hP _ q hs (by omega), List.drop_eq_getElem_cons (by omega : i < l.length)]
  simp only [Option.bind_some, cntB, if_true, Bool.false_eq_true, if_false]
  have hw1 : wrap64 ((i : Int) + 1) = ((i + 1 : Nat) : Int) := wrap_succ (by omega)
  have hwc : wrap64 ((c : Int) + 1) = ((c + 1 : Nat) : Int) := wrap_succ (by omega)
  have hwp : wrap64 ((p : Int) + 1) = ((p + 1 : Nat) : Int) := wrap_succ (by omega)
  rw [hw1, hwc, hwp]
  subst hq
  have e1 : c + 1 + cntB clo (l.drop (i + 1)) = c + (1 + cntB clo (l.drop (i + 1))) := by omega
  have e2 : p + 1 + cntB P (l.drop (i + 1)) = p + (1 + cntB P (l.drop (i + 1))) := by omega
  have g1 : i + 1 + d = l.length := by omega
  have g2 : c + d ≤ 100000 := Nat.le_of_succ_le hc
  have g3 : c + 1 + d ≤ 100000 := by rw [Nat.add_right_comm]; exact hc
  have g4 : p + d ≤ 100000 := Nat.le_of_succ_le hp
  have g5 : p + 1 + d ≤ 100000 := by rw [Nat.add_right_comm]; exact hp
  clear hw1 hwc hwp
  cases h1 : clo l[i] <;> cases h2 : P l[i]
  ·
   simp only [Bool.false_eq_true, if_false, Nat.zero_add]; exact ih k (i + 1) c p g1 g2 g4 hm hk
  ·
   simp only [Bool.false_eq_true, if_false, if_true, Nat.zero_add]; rw [ih k (i + 1) c (p + 1) g1 g2 g5 hm hk, e2]
  ·
   simp only [Bool.false_eq_true, if_false, if_true, Nat.zero_add]; rw [ih k (i + 1) (c + 1) p g1 g3 g4 hm hk, e1]
  ·
   simp only [if_true]; rw [ih k (i + 1) (c + 1) (p + 1) g1 g3 g5 hm hk, e1, e2]
theorem spec_cc1 (w : ByteArray) (hw : w.size ≤ 60) (m : Nat) (hm : m ≤ 61) (c p : Int) : ∀ (d k i : Nat) (acc : List ByteArray), i + d = plc w m → acc.length ≤ i → 200 < k →
  spec_CountClosed.l1 (k + d + 1) w c p (m : Int) (canon acc) (i : Int) = spec_CountClosed.l2 k w c p (m : Int) (canon (acc ++ fcsFrom w m d i)) 0 := by
 intro d
 induction d with
 | zero =>
  intro k i acc hd ha hk
  unfold plc at hd
  simp only [spec_CountClosed.l1]
  rw [wrap_nat (n := i + m) (by omega) (by omega), if_neg (by omega)]
  simp [fcsFrom]
 | succ d ih =>
  intro k i acc hd ha hk
  have hd' := hd
  unfold plc at hd'
  obtain ⟨q, hq⟩ : ∃ q, q = k + d + 1 := ⟨_, rfl⟩
  rw [show k + (d + 1) + 1 = q + 1 by omega]
  simp only [spec_CountClosed.l1]
  rw [wrap_nat (n := i + m) (by omega) (by omega), if_pos (by omega), if_pos (by omega), if_pos (by omega), Int.toNat_natCast, Int.toNat_natCast, put_ev acc _ (by omega) q (by omega), wrap_succ (by omega)]
  simp only [Option.bind_some]
  subst hq
  rw [ih k (i + 1) _ (by omega) (by simp; omega) hk, fcsFrom]
  simp
theorem fac_small (w : ByteArray) (hw : w.size ≤ 60) (m : Nat) : ∀ x ∈ fac w m, x.size ≤ 60 := by
 intro x hx
 obtain ⟨j, h1, rfl⟩ := (mem_fac w m x).1 hx
 rw [ByteArray.size_extract]; omega
theorem impl_cc0 (P : ByteArray → Bool) (hP : ∀ (x : ByteArray) (k : Nat), x.size ≤ 60 → 300 < k → impl_isPrivileged.f k x = some (P x)) (w : ByteArray) (hw : w.size ≤ 60) : ∀ (d k m c p : Nat), m + d = w.size + 1 → 1 ≤ m → c ≤ m * 100 → p ≤ m * 100 → d * 100 + 1000 < k → impl_CountClosed.l0 k w (c : Int) (p : Int) (m : Int) = some (ccF P w d m c p) := by
 intro d
 induction d with
 | zero =>
  intro k m c p hd hm hc hp hk
  obtain ⟨k, rfl⟩ : ∃ n, k = n + 1 := ⟨k - 1, by omega⟩
  simp only [impl_CountClosed.l0]
  rw [if_neg (by omega)]; rfl
 | succ d ih =>
  intro k m c p hd hm hc hp hk
  have hfl := fac_length_le w m
  have h1 := cntB_le clo (fac w m)
  have h2 := cntB_le P (fac w m)
  obtain ⟨k, rfl⟩ : ∃ n, k = (n + (fac w m).length + 1) + 1 := ⟨k - (fac w m).length - 2, by omega⟩
  obtain ⟨q, hq⟩ : ∃ q, q = k + (fac w m).length + 1 := ⟨_, rfl⟩
  have hf : impl_factors.f q w (m : Int) = some (fac w m) := by
   have h := impl_factors_loop w m (by omega) (by omega) (plc w m) q 0 [] (by omega) rfl (by unfold plc; omega)
   exact h
  have hl := impl_cc1 P hP w hw m (fac w m) (fac_small w hw m) (by omega) (fac w m).length k 0 c p (by omega) (by omega) (by omega) (by omega) (by omega)
  rw [← hq] at hl ⊢
  simp only [impl_CountClosed.l0]
  rw [if_pos (by omega), hf]
  simp only [Option.bind_some]
  rw [show (0 : Int) = ((0 : Nat) : Int) from rfl, hl, List.drop_zero, ih k (m + 1) _ _ (by omega) (by omega) (by omega) (by omega) (by omega), ccF]
theorem spec_cc0 (P : ByteArray → Bool) (hP : ∀ (x : ByteArray) (k : Nat), x.size ≤ 60 → 6500 < k → spec_l04Closed.f k x true = some (P x)) (w : ByteArray) (hw : w.size ≤ 60) : ∀ (d k m c p : Nat), m + d = w.size + 1 → 1 ≤ m → c ≤ m * 100 → p ≤ m * 100 → d * 200 + 8000 < k → spec_CountClosed.l0 k w (c : Int) (p : Int) (m : Int) = some (ccF P w d m c p) := by
 intro d
 induction d with
 | zero =>
  intro k m c p hd hm hc hp hk
  obtain ⟨k, rfl⟩ : ∃ n, k = n + 1 := ⟨k - 1, by omega⟩
  simp only [spec_CountClosed.l0]
  rw [if_neg (by omega)]; rfl
 | succ d ih =>
  intro k m c p hd hm hc hp hk
  have hfl := fac_length_le w m
  have hpl : plc w m ≤ 61 := by unfold plc; omega
  have h1 := cntB_le clo (fac w m)
  have h2 := cntB_le P (fac w m)
  obtain ⟨k, rfl⟩ : ∃ n, k = ((n + (fac w m).length + 1) + plc w m + 1) + 1 := ⟨k - (fac w m).length - plc w m - 3, by omega⟩
  have hl1 := spec_cc1 w hw m (by omega) (c : Int) (p : Int) (plc w m) (k + (fac w m).length + 1) 0 [] (by omega) (by simp) (by omega)
  have hl := spec_cc2 P hP w hw m (fac w m) (fac_small w hw m) (by omega) (fac w m).length k 0 c p (by omega) (by omega) (by omega) (by omega) (by omega)
  simp only [spec_CountClosed.l0]
  rw [canon_nil, List.nil_append] at hl1
  rw [if_pos (by omega), show (0 : Int) = ((0 : Nat) : Int) from rfl, hl1, show canon (fcsFrom w m (plc w m) 0) = fac w m from rfl, show (0 : Int) = ((0 : Nat) : Int) from rfl, hl, List.drop_zero, ih k (m + 1) _ _ (by omega) (by omega) (by omega) (by omega) (by omega), ccF]
theorem pvi (x : ByteArray) (k : Nat) (hx : x.size ≤ 60) (hk : 300 < k) : impl_isPrivileged.f k x = some (prv 61 x) := isPriv_f 60 x k hx hx (by omega)
theorem pvs (x : ByteArray) (k : Nat) (hx : x.size ≤ 60) (hk : 6500 < k) : spec_l04Closed.f k x true = some (prv 61 x) := closed_f 60 x true k hx hx (by omega)
theorem prv_clo : ∀ (k : Nat) (w : ByteArray), prv k w = true → clo w = true
 | 0, w, h => by cases h
 | k + 1, w, h => by
  unfold prv at h
  unfold clo
  rw [Bool.or_eq_true] at h ⊢
  rcases h with h | h
  ·
   exact .inl h
  ·
   obtain ⟨x, h1, _⟩ := List.any_eq_true.1 h
   exact .inr (List.any_eq_true.2 ⟨x, h1, rfl⟩)
theorem cntB_mono {P Q : ByteArray → Bool} (h : ∀ x, P x = true → Q x = true) : ∀ l, cntB P l ≤ cntB Q l
 | [] => Nat.le_refl _
 | x :: l => by
  have ih := cntB_mono h l
  unfold cntB
  by_cases c : P x = true
  ·
   rw [if_pos c, if_pos (h x c)]; omega
  ·
   rw [if_neg c]; split <;> omega
theorem cntB_one {P : ByteArray → Bool} : ∀ {l : List ByteArray} {x : ByteArray}, x ∈ l → P x = true → 1 ≤ cntB P l
 | [], x, h, _ => by cases h
 | y :: l, x, h, hp => by
  unfold cntB
  rcases List.mem_cons.1 h with rfl | h
  ·
   rw [if_pos hp]; omega
  ·
   have := cntB_one h hp; omega
theorem ccF_ok (P : ByteArray → Bool) (hP : ∀ x, P x = true → clo x = true) (w : ByteArray) : ∀ d m c p, p ≤ c → ∃ c' p' : Nat, ccF P w d m c p = ((c' : Int), (p' : Int), 0) ∧ p' ≤ c' ∧ p ≤ p'
 | 0, m, c, p, h => ⟨c, p, rfl, h, Nat.le_refl _⟩
 | d + 1, m, c, p, h => by
  have h1 := cntB_mono hP (fac w m)
  obtain ⟨c', p', h2, h3, h4⟩ := ccF_ok P hP w d (m + 1) (c + cntB clo (fac w m)) (p + cntB P (fac w m)) (by omega)
  exact ⟨c', p', h2, h3, by omega⟩
theorem ccF_one (w : ByteArray) (h : 0 < w.size) : ∃ c p : Nat, ccF (prv 61) w w.size 1 0 0 = ((c : Int), (p : Int), 0) ∧ p ≤ c ∧ 1 ≤ p := by
 obtain ⟨d, hd⟩ : ∃ d, w.size = d + 1 := ⟨w.size - 1, by omega⟩
 have hx : (w.extract 0 1).size = 1 := by rw [ByteArray.size_extract]; omega
 have h1 : 1 ≤ cntB (prv 61) (fac w 1) := cntB_one (x := w.extract 0 1) ((mem_fac w 1 _).2 ⟨0, by omega, by rw [Nat.zero_add]⟩) (by
  have : decide ((w.extract 0 1).size ≤ 1) = true := decide_eq_true (by omega)
  show (decide ((w.extract 0 1).size ≤ 1) || _) = true
  rw [this, Bool.true_or])
 have h0 := cntB_mono (prv_clo 61) (fac w 1)
 obtain ⟨c, p, h2, h3, h4⟩ := ccF_ok (prv 61) (prv_clo 61) w d (1 + 1) (0 + cntB clo (fac w 1)) (0 + cntB (prv 61) (fac w 1)) (by omega)
 rw [hd]
 exact ⟨c, p, h2, h3, by omega⟩
theorem countClosed_ev (w : ByteArray) (hw : w.size ≤ 100000) : ∃ r : Int × Int × Int, (isW w = true → ∃ c p : Nat, r = ((c : Int), (p : Int), 0) ∧ p ≤ c ∧ (0 < w.size → 1 ≤ p)) ∧ (isW w = false → r.2.2 = 1) ∧ Ev (fun k => spec_CountClosed.f k w) r ∧ Ev (fun k => impl_CountClosed.f k w) r := by
 unfold spec_CountClosed.f impl_CountClosed.f impl_always.f
 simp only [wordCode_f, Option.bind_some]
 by_cases h0 : isW w = true
 ·
  have hs := isW_size h0
  have hc : codeW true [w] = 0 := codeW_zero.2 ⟨by simp [h0], rfl⟩
  refine ⟨ccF (prv 61) w w.size 1 0 0, fun _ => ?_, fun h => (by rw [h0] at h; cases h), ev_bnd (l01Is_ev w (by omega)) ?_, ?_⟩
  ·
   rcases Nat.eq_zero_or_pos w.size with g | g
   ·
    obtain ⟨c, p, h2, h3, h4⟩ := ccF_ok (prv 61) (prv_clo 61) w w.size 1 0 0 (by omega)
    exact ⟨c, p, h2, h3, fun h => by omega⟩
   ·
    obtain ⟨c, p, h2, h3, h4⟩ := ccF_one w g
    exact ⟨c, p, h2, h3, fun _ => h4⟩
  ·
   simp only [h0, if_true]
   exact ⟨30000, fun k hk => spec_cc0 _ pvs w hs w.size k 1 0 0 (by omega) (by omega) (by omega) (by omega) (by omega)⟩
  ·
   simp only [hc, if_true]
   exact ⟨30000, fun k hk => impl_cc0 _ pvi w hs w.size k 1 0 0 (by omega) (by omega) (by omega) (by omega) (by omega)⟩
 ·
  have hc : codeW true [w] = 1 := by simp [codeW, h0]
  refine ⟨(0, 0, 1), fun h => absurd h h0, fun _ => rfl, ev_bnd (l01Is_ev w (by omega)) ?_, ?_⟩
  ·
   simp only [h0, if_false]; exact ev_of rfl
  ·
   simp only [hc, show ¬ ((1 : Int) = 0) by omega, if_false]; exact ev_of rfl

/-! ### parts -/
def joinB (l : List ByteArray) : ByteArray := l.foldr (fun x y => x ++ y) ByteArray.empty
theorem cuts_ok (w : ByteArray) (L E : List Int) (hok : ∀ i, i < w.size → RowOk w L E i) : ∀ d i, i ≤ w.size → w.size < i + d → (∀ x ∈ cuts w E d i, isPal x = true ∧ 0 < x.size ∧ ∃ a b, x = w.extract a b) ∧ joinB (cuts w E d i) = w.extract i w.size
 | 0, i, h1, h2 => by omega
 | d + 1, i, h1, h2 => by
  rw [cuts]
  by_cases h : i < w.size
  ·
   rw [if_pos h]
   obtain ⟨hr, _, _⟩ := hok i h
   have lo := hr.lo
   have hi := hr.hi
   have hp := hr.pal
   simp only at lo hi hp
   obtain ⟨e, he⟩ : ∃ e : Nat, rd E (i : Int) = (e : Int) := ⟨(rd E (i : Int)).toNat, by omega⟩
   rw [he, Int.toNat_natCast] at hp ⊢
   rw [he] at lo hi
   obtain ⟨g1, g2⟩ := cuts_ok w L E hok d e (by omega) (by omega)
   refine ⟨fun x hx => ?_, ?_⟩
   ·
    rcases List.mem_cons.1 hx with rfl | hx
    ·
     exact ⟨hp, by rw [ByteArray.size_extract]; omega, _, _, rfl⟩
    ·
     exact g1 x hx
   ·
    show w.extract i e ++ joinB (cuts w E d e) = _
    rw [g2, ByteArray.extract_append_extract]
    congr 1 <;> omega
  ·
   rw [if_neg h]
   refine ⟨fun x hx => (by cases hx), ?_⟩
   have : i = w.size := by omega
   subst this
   refine (ByteArray.ext ?_).symm
   simp [joinB, ByteArray.data_extract]
theorem parts_ok (w : ByteArray) (hw : w.size ≤ 60) : (∀ x ∈ partsW w, isPal x = true ∧ 0 < x.size ∧ ∃ a b, x = w.extract a b) ∧ joinB (partsW w) = w := by
 obtain ⟨_, h2⟩ := tabs_ok w w.size (Nat.le_refl _)
 obtain ⟨g1, g2⟩ := cuts_ok w (tabs w w.size).1 (tabs w w.size).2 (fun i hi => h2 i (by omega) hi) (w.size + 1) 0 (by omega) (by omega)
 refine ⟨g1, ?_⟩
 unfold partsW
 rw [g2]; simp
theorem fewest_ev (w : ByteArray) (hw : w.size ≤ 100000) : ∃ r : List ByteArray × Int, r.1.length ≤ 1000 ∧ (isW w = true → r = (partsW w, 0)) ∧ (isW w = false → r = ([], 1)) ∧ Ev (fun k => spec_FewestParts.f k w) r ∧ Ev (fun k => impl_FewestParts.f k w) r := by
 unfold spec_FewestParts.f impl_FewestParts.f impl_always.f
 simp only [wordCode_f, Option.bind_some]
 by_cases h0 : isW w = true
 ·
  have hs := isW_size h0
  have hc : codeW true [w] = 0 := codeW_zero.2 ⟨by simp [h0], rfl⟩
  have hl := partsW_length w hs
  have z1 : wrap64 ((w.size : Int) + 1) = ((w.size + 1 : Nat) : Int) := wrap_succ (by omega)
  have z2 : (0 : Int) ≤ ((w.size + 1 : Nat) : Int) := by omega
  have z3 : (((w.size + 1 : Nat) : Int)).toNat ≤ 35184372088832 := by rw [Int.toNat_natCast]; omega
  have z4 : wrap64 ((w.size : Int) - 1) = (w.size : Int) - 1 := wrap_id (by omega) (by omega)
  refine ⟨(partsW w, 0), (by show (partsW w).length ≤ _; omega), fun _ => rfl, fun h => (by rw [h0] at h; cases h), ev_bnd (l01Is_ev w (by omega)) ?_, ?_⟩
  ·
   simp only [h0, if_true, z1, z2, z3, z4, Int.toNat_natCast] at *
   exact ⟨20001, fun k hk => by simp only [z3, if_true]; exact spec_fewest w hs k hk⟩
  ·
   simp only [hc, if_true, z1, z2, z3, z4, Int.toNat_natCast] at *
   exact ⟨20001, fun k hk => by simp only [z3, if_true]; exact impl_fewest w hs k hk⟩
 ·
  have hc : codeW true [w] = 1 := by simp [codeW, h0]
  refine ⟨([], 1), (by simp), fun h => absurd h h0, fun _ => rfl, ev_bnd (l01Is_ev w (by omega)) ?_, ?_⟩
  ·
   simp only [h0, if_false]; exact ev_of rfl
  ·
   simp only [hc, show ¬ ((1 : Int) = 0) by omega, if_false]; exact ev_of rfl

end Go.Proofs.Ytjmcffejpgblfaa.PF

namespace Go.Proofs.Ytjmcffejpgblfaa.PF
open Go.RowKit Go.Proofs.YtjmcffejpgblfaaW.PrintWords Go.Proofs.YtjmcffejpgblfaaW.PrintLast Go.Proofs.YtjmcffejpgblfaaW.PrintMore
set_option linter.unusedVariables false
set_option linter.unusedSimpArgs false
set_option maxRecDepth 20000

theorem dw_loop (a : ByteArray) (ha : isW a = true) : ∀ (d i : Nat) (o : ByteArray), i + d = a.size → o.size ≤ 60 → Dir o.toList → (∀ b ∈ o.toList, b ∈ a.toList) →
  ∃ r : ByteArray × Int, (r.2 = 0 → Dir r.1.toList ∧ r.1.size ≤ 60 ∧ ∀ b ∈ r.1.toList, b ∈ a.toList) ∧ Ev (fun k => spec_DirectedWord.l0 k a o (i : Int)) r ∧ Ev (fun k => impl_DirectedWord.l0 k a o i) r := by
 have hs := isW_size ha
 intro d
 induction d with
 | zero =>
  intro i o hi ho hD hb
  refine ⟨(o, 0), fun _ => ⟨hD, ho, hb⟩, ev_suc ?_, ev_suc ?_⟩
  ·
   simp only [spec_DirectedWord.l0, show ¬ ((i : Int) < (a.size : Int)) by omega, if_false]; exact ev_of rfl
  ·
   simp only [impl_DirectedWord.l0, show ¬ (i < a.size) by omega, if_false]; exact ev_of rfl
 | succ d ih =>
  intro i o hi ho hD hb
  have hx : (a.extract i (i + 1)).size = 1 := by rw [ByteArray.size_extract]; omega
  have hz : (o ++ a.extract i (i + 1)).size = o.size + 1 := by rw [ByteArray.size_append, hx]
  obtain ⟨v, v1, v2, v3, v4, v5, v6, v7, v8⟩ := close_ev (o ++ a.extract i (i + 1)) (by omega) (by omega)
  have hbl : (a.extract i (i + 1)).toList.length = 1 := by rw [tl_len]; exact hx
  obtain ⟨x, hxe⟩ : ∃ x, (a.extract i (i + 1)).toList = [x] := by
   match h : (a.extract i (i + 1)).toList, hbl with
   | [x], _ => exact ⟨x, rfl⟩
  have hDv := v8 o.toList x (by rw [tl_append, hxe]) hD
  have hbv : ∀ b ∈ v.toList, b ∈ a.toList := fun b hb2 => by
   have := v5 b hb2
   rw [tl_append, List.mem_append] at this
   rcases this with g | g
   ·
    exact hb b g
   ·
    rw [tl_extract] at g
    exact List.mem_of_mem_take (List.mem_of_mem_drop g)
  have ew : wrap64 ((i : Int) + 1) = ((i + 1 : Nat) : Int) := wrap_succ (by omega)
  have y1 : (i : Int) < (a.size : Int) := by omega
  have y2 : (0 : Int) ≤ (i : Int) := by omega
  have y3 : (i : Int) ≤ ((i + 1 : Nat) : Int) := by omega
  have y4 : ((i + 1 : Nat) : Int) ≤ (a.size : Int) := by omega
  have y5 : o.size + 1 ≤ 9223372036854775807 := by omega
  have y6 : i < a.size := by omega
  by_cases g : (v.size : Int) > 60
  ·
   refine ⟨(⟨#[]⟩, 3), fun h => absurd h (by decide), ev_suc ?_, ev_suc ?_⟩
   ·
    simp only [spec_DirectedWord.l0, y1, y2, if_true, ew, y3, y4, Int.toNat_natCast, hx, y5]
    refine ev_bnd v7 ?_
    simp only [g, if_true]; exact ev_of rfl
   ·
    simp only [impl_DirectedWord.l0, y6, if_true]
    refine ev_bnd v6 ?_
    simp only [g, if_true]; exact ev_of rfl
  ·
   obtain ⟨r, r0, r1, r2⟩ := ih (i + 1) v (by omega) (by omega) hDv hbv
   refine ⟨r, r0, ev_suc ?_, ev_suc ?_⟩
   ·
    simp only [spec_DirectedWord.l0, y1, y2, if_true, ew, y3, y4, Int.toNat_natCast, hx, y5]
    refine ev_bnd v7 ?_
    simp only [g, if_false]; exact r1
   ·
    simp only [impl_DirectedWord.l0, y6, if_true]
    refine ev_bnd v6 ?_
    simp only [g, if_false]; exact r2
theorem directed_ev (a : ByteArray) (ha : a.size ≤ 100000) : ∃ r : ByteArray × Int, (r.2 = 0 → Dir r.1.toList ∧ isW r.1 = true) ∧ Ev (fun k => spec_DirectedWord.f k a) r ∧ Ev (fun k => impl_DirectedWord.f k a) r := by
 unfold spec_DirectedWord.f impl_DirectedWord.f impl_always.f
 simp only [wordCode_f, Option.bind_some]
 by_cases h0 : isW a = true
 ·
  have hc : codeW true [a] = 0 := codeW_zero.2 ⟨by simp [h0], rfl⟩
  have hnil : (⟨#[]⟩ : ByteArray).toList = ([] : List UInt8) := by rw [toList_eq]
  obtain ⟨r, r0, r1, r2⟩ := dw_loop a h0 a.size 0 (⟨#[]⟩ : ByteArray) (by omega) (by show 0 ≤ 60; omega) (by rw [hnil]; exact dir_nil) (by rw [hnil]; intro b hb; cases hb)
  refine ⟨r, fun h => ?_, ev_bnd (l01Is_ev a (by omega)) ?_, ?_⟩
  ·
   obtain ⟨q1, q2, q3⟩ := r0 h
   refine ⟨q1, ?_⟩
   rw [isW_iff] at h0 ⊢
   exact ⟨q2, fun b hb => h0.2 b (q3 b hb)⟩
  ·
   simp only [h0, if_true]; exact r1
  ·
   simp only [hc, if_true]; exact r2
 ·
  have hc : codeW true [a] = 1 := by simp [codeW, h0]
  refine ⟨(⟨#[]⟩, 1), fun h => absurd h (by decide), ev_bnd (l01Is_ev a (by omega)) ?_, ?_⟩
  ·
   simp only [h0, if_false]; exact ev_of rfl
  ·
   simp only [hc, show ¬ ((1 : Int) = 0) by omega, if_false]; exact ev_of rfl

end Go.Proofs.Ytjmcffejpgblfaa.PF

namespace Go.Proofs.Ytjmcffejpgblfaa.PF
open Go.RowKit Go.Proofs.YtjmcffejpgblfaaW.PrintWords Go.Proofs.YtjmcffejpgblfaaW.PrintLast Go.Proofs.YtjmcffejpgblfaaW.PrintMore
set_option linter.unusedVariables false
set_option linter.unusedSimpArgs false
set_option maxRecDepth 20000

theorem isPal_ev {w : ByteArray} (h : isW w = true) : Ev (fun k => impl_IsPalindrome.f k w) (isPal w, 0) := by
 have hs := isW_size h
 have hc : codeW true [w] = 0 := codeW_zero.2 ⟨by simp [h], rfl⟩
 unfold impl_IsPalindrome.f impl_always.f
 simp only [wordCode_f, Option.bind_some, hc, if_true, isPal_f w (by omega)]
 exact ev_of rfl
theorem defect_ev {w : ByteArray} (h : isW w = true) : Ev (fun k => impl_DefectOf.f k w) ((w.size : Int) - ((palAll w).length : Int), 0) := by
 have hs := isW_size h
 have hc : codeW true [w] = 0 := codeW_zero.2 ⟨by simp [h], rfl⟩
 have hl := palAll_le w
 have e1 : wrap64 ((w.size : Int) - ((palAll w).length : Int)) = (w.size : Int) - ((palAll w).length : Int) := wrap_id (by omega) (by omega)
 unfold impl_DefectOf.f impl_always.f impl_size.f
 simp only [wordCode_f, Option.bind_some, hc, if_true]
 refine ev_bnd ⟨2001, fun k hk => palindromes_f w hs k (by omega)⟩ ?_
 simp only [e1]; exact ev_of rfl
theorem closedW_ev (w : ByteArray) (hw : w.size ≤ 100000) : Ev (fun k => spec_IsClosedWord.f k w) (if isW w = true then (clo w, 0) else (false, 1)) ∧ Ev (fun k => impl_IsClosedWord.f k w) (if isW w = true then (clo w, 0) else (false, 1)) := by
 unfold spec_IsClosedWord.f impl_IsClosedWord.f impl_always.f
 simp only [wordCode_f, Option.bind_some]
 by_cases h0 : isW w = true
 ·
  have hs := isW_size h0
  have hc : codeW true [w] = 0 := codeW_zero.2 ⟨by simp [h0], rfl⟩
  rw [if_pos h0]
  refine ⟨ev_bnd (l01Is_ev w (by omega)) ?_, ?_⟩
  ·
   simp only [h0, if_true]
   exact ev_bnd (a := clo w) ⟨7000, fun k hk => by
    have := closed_f 60 w false k hs hs (by omega)
    simpa using this⟩ (ev_of rfl)
  ·
   simp only [hc, if_true]
   exact ev_bnd ⟨201, fun k hk => isClosed_f w hs k (by omega)⟩ (ev_of rfl)
 ·
  have hc : codeW true [w] = 1 := by simp [codeW, h0]
  rw [if_neg h0]
  refine ⟨ev_bnd (l01Is_ev w (by omega)) ?_, ?_⟩
  ·
   simp only [h0, if_false]; exact ev_of rfl
  ·
   simp only [hc, show ¬ ((1 : Int) = 0) by omega, if_false]; exact ev_of rfl
theorem priv_ev (w : ByteArray) (hw : w.size ≤ 100000) : ∃ r : Bool × Int, (isW w = true → r.2 = 0 ∧ (r.1 = true → clo w = true)) ∧ (isW w = false → r.2 = 1) ∧ Ev (fun k => spec_IsPrivileged.f k w) r ∧ Ev (fun k => impl_IsPrivileged.f k w) r := by
 unfold spec_IsPrivileged.f impl_IsPrivileged.f impl_always.f
 simp only [wordCode_f, Option.bind_some]
 by_cases h0 : isW w = true
 ·
  have hs := isW_size h0
  have hc : codeW true [w] = 0 := codeW_zero.2 ⟨by simp [h0], rfl⟩
  have hq := prv_clo 61 w
  have g1 := fun k hk => pvs w k hs hk
  have g2 := fun k hk => pvi w k hs hk
  generalize prv 61 w = q at hq g1 g2
  refine ⟨(q, 0), fun _ => ⟨rfl, hq⟩, fun h => (by rw [h0] at h; cases h), ev_bnd (l01Is_ev w (by omega)) ?_, ?_⟩
  ·
   simp only [h0, if_true]
   exact ev_bnd ⟨7000, fun k hk => g1 k (by omega)⟩ (ev_of rfl)
  ·
   simp only [hc, if_true]
   exact ev_bnd ⟨301, fun k hk => g2 k (by omega)⟩ (ev_of rfl)
 ·
  have hc : codeW true [w] = 1 := by simp [codeW, h0]
  refine ⟨(false, 1), fun h => absurd h h0, fun _ => rfl, ev_bnd (l01Is_ev w (by omega)) ?_, ?_⟩
  ·
   simp only [h0, if_false]; exact ev_of rfl
  ·
   simp only [hc, show ¬ ((1 : Int) = 0) by omega, if_false]; exact ev_of rfl
theorem ba_empty {w : ByteArray} (h : w.size = 0) : w = ⟨#[]⟩ := by
 refine ba_inj.1 ?_
 have h1 : w.toList = [] := List.eq_nil_of_length_eq_zero (by rw [tl_len]; exact h)
 rw [h1, toList_eq]
theorem closureOf_ev (w : ByteArray) (hw : w.size ≤ 100000) : ∃ r : ByteArray × Int, (r.2 = 0 → isW w = true ∧ isPal r.1 = true ∧ isW r.1 = true ∧ w.size ≤ r.1.size ∧ r.1.extract 0 w.size = w ∧ (0 < w.size → r.1.size + 1 ≤ 2 * w.size)) ∧
  Ev (fun k => spec_ClosureOf.f k w) r ∧ Ev (fun k => impl_ClosureOf.f k w) r := by
 unfold spec_ClosureOf.f impl_ClosureOf.f impl_always.f
 simp only [wordCode_f, Option.bind_some]
 by_cases h0 : isW w = true
 ·
  have hs := isW_size h0
  have hc : codeW true [w] = 0 := codeW_zero.2 ⟨by simp [h0], rfl⟩
  have key : ∃ v : ByteArray, isPal v = true ∧ w.size ≤ v.size ∧ (0 < w.size → v.size + 1 ≤ 2 * w.size) ∧ v.extract 0 w.size = w ∧ (∀ b ∈ v.toList, b ∈ w.toList) ∧ Ev (fun k => impl_closure.f k w) v ∧ Ev (fun k => spec_l04Closure.f k w) v := by
   rcases Nat.eq_zero_or_pos w.size with hz | hz
   ·
    obtain rfl := ba_empty hz
    have hnil : (⟨#[]⟩ : ByteArray).toList = ([] : List UInt8) := by rw [toList_eq]
    have hpe : ∀ i j, isPal ((⟨#[]⟩ : ByteArray).extract i j) = true := fun i j => by rw [isPal_iff, tl_extract, hnil]; simp
    refine ⟨⟨#[]⟩, by rw [isPal_iff, hnil]; rfl, Nat.le_refl _, fun h => absurd h (by omega), ?_, fun b hb => hb, ?_, ?_⟩
    ·
     refine ba_inj.1 ?_; rw [tl_extract, hnil]; simp
    ·
     unfold impl_closure.f
     refine ev_bnd (a := (0 : Int)) ⟨1, fun k hk => ?_⟩ ?_
     ·
      have := ending_loop (⟨#[]⟩ : ByteArray) (by omega) 0 (Nat.zero_le _) (hpe _ _) (fun q hq => by omega) 0 k 0 (by omega) (by omega)
      rw [hz] at this
      exact this
     ·
      have e1 : wrap64 (((0 : Nat) : Int) - 0) = ((0 : Nat) : Int) := by rw [Int.sub_zero]; exact wrap_id (by omega) (by omega)
      have hx : ((⟨#[]⟩ : ByteArray).extract 0 0).size = 0 := by rw [ByteArray.size_extract]; omega
      have hrs : (rev ((⟨#[]⟩ : ByteArray).extract 0 0)).size = 0 := by rw [sz_rev]; exact hx
      simp only [hz, e1, show (0 : Int) ≤ ((0 : Nat) : Int) by omega, show ((0 : Nat) : Int) ≤ ((0 : Nat) : Int) by omega, if_true, Int.toNat_natCast, reversed_f _ (show ((⟨#[]⟩ : ByteArray).extract 0 0).size ≤ 1000000 by omega), Option.bind_some, hrs, show 0 + 0 ≤ 9223372036854775807 by omega]
      refine ev_of ?_
      congr 1
    ·
     unfold spec_l04Closure.f
     simp only [hnil, if_true]
     exact ev_of rfl
   ·
    obtain ⟨v, v1, v2, v3, v4, v5, v6, v7, _⟩ := close_ev w hz (by omega)
    exact ⟨v, v1, v2, fun _ => v3, v4, v5, v6, v7⟩
  obtain ⟨v, v1, v2, v3, v4, v5, v6, v7⟩ := key
  by_cases g : (v.size : Int) > 60
  ·
   refine ⟨(⟨#[]⟩, 3), fun h => absurd h (by decide), ev_bnd (l01Is_ev w (by omega)) ?_, ?_⟩
   ·
    simp only [h0, if_true]
    refine ev_bnd v7 ?_
    simp only [g, if_true]; exact ev_of rfl
   ·
    simp only [hc, if_true]
    refine ev_bnd v6 ?_
    simp only [g, if_true]; exact ev_of rfl
  ·
   have hv : isW v = true := by
    rw [isW_iff] at h0 ⊢
    exact ⟨by omega, fun b hb => h0.2 b (v5 b hb)⟩
   refine ⟨(v, 0), fun _ => ⟨h0, v1, hv, v2, v4, v3⟩, ev_bnd (l01Is_ev w (by omega)) ?_, ?_⟩
   ·
    simp only [h0, if_true]
    refine ev_bnd v7 ?_
    simp only [g, if_false]; exact ev_of rfl
   ·
    simp only [hc, if_true]
    refine ev_bnd v6 ?_
    simp only [g, if_false]; exact ev_of rfl
 ·
  have hc : codeW true [w] = 1 := by simp [codeW, h0]
  refine ⟨(⟨#[]⟩, 1), fun h => absurd h (by decide), ev_bnd (l01Is_ev w (by omega)) ?_, ?_⟩
  ·
   simp only [h0, if_false]; exact ev_of rfl
  ·
   simp only [hc, show ¬ ((1 : Int) = 0) by omega, if_false]; exact ev_of rfl
theorem join_loop (l : List ByteArray) (hl : l.length ≤ 1000) : ∀ (d i : Nat) (acc : ByteArray), i + d = l.length → acc.size + (joinB (l.drop i)).size ≤ 1000 → Ev (fun k => laws_joined9.l0 k l acc (i : Int)) (acc ++ joinB (l.drop i)) := by
 intro d
 induction d with
 | zero =>
  intro i acc hi hs
  rw [List.drop_eq_nil_of_le (by omega)]
  refine ev_suc ?_
  simp only [laws_joined9.l0, show ¬ ((i : Int) < (l.length : Int)) by omega, if_false]
  exact ev_of (by simp [joinB])
 | succ d ih =>
  intro i acc hi hs
  have hil : i < l.length := by omega
  rw [List.drop_eq_getElem_cons hil] at hs ⊢
  have ej : joinB (l[i] :: l.drop (i + 1)) = l[i] ++ joinB (l.drop (i + 1)) := rfl
  rw [ej] at hs ⊢
  rw [ByteArray.size_append] at hs
  have er : rdOf ByteArray.empty l (i : Int) = l[i] := rdOf_nat _ _ i hil
  have h := ih (i + 1) (acc ++ l[i]) (by omega) (by rw [ByteArray.size_append]; omega)
  rw [ByteArray.append_assoc] at h
  have y1 : (i : Int) < (l.length : Int) := by omega
  have y2 : (0 : Int) ≤ (i : Int) := by omega
  have y3 : acc.size + l[i].size ≤ 9223372036854775807 := by omega
  refine ev_suc ?_
  simp only [laws_joined9.l0, y1, y2, if_true, er, y3, wrap_succ (i := i) (by omega)]
  exact h
theorem joined_ev (w : ByteArray) (hw : w.size ≤ 60) : Ev (fun k => laws_joined9.f k (partsW w)) w := by
 have hl := partsW_length w hw
 obtain ⟨_, h2⟩ := parts_ok w hw
 have h := join_loop (partsW w) (by omega) (partsW w).length 0 (⟨#[]⟩ : ByteArray) (by omega) (by rw [List.drop_zero, h2]; show 0 + w.size ≤ 1000; omega)
 rw [List.drop_zero, h2] at h
 have e : (⟨#[]⟩ : ByteArray) ++ w = w := ba_inj.1 (by rw [tl_append]; rw [toList_eq]; rfl)
 rw [e] at h
 exact h
theorem words9_loop (l : List ByteArray) (hl : l.length ≤ 4000000000000) : ∀ (d k i : Nat), i + d = l.length → d < k → laws_words9.l0 k l l (i : Int) = some true := by
 intro d
 induction d with
 | zero =>
  intro k i hd hk
  obtain ⟨k, rfl⟩ : ∃ m, k = m + 1 := ⟨k - 1, by omega⟩
  simp only [laws_words9.l0]; rw [if_neg (by omega)]
 | succ d ih =>
  intro k i hd hk
  obtain ⟨k, rfl⟩ : ∃ m, k = m + 1 := ⟨k - 1, by omega⟩
  simp only [laws_words9.l0]
  rw [if_pos (by omega), if_pos (by omega), if_pos (by omega), if_pos trivial, wrap_succ (by omega), ih k (i + 1) (by omega) (by omega)]
theorem words9_ev (l : List ByteArray) (hl : l.length ≤ 4000000000000) : Ev (fun k => laws_words9.f k l l) true :=
 ⟨l.length + 1, fun k hk => by
  have h := words9_loop l hl l.length k 0 (by omega) (by omega)
  simp only [laws_words9.f, if_true]; exact h⟩
theorem bytes_extract (w : ByteArray) (i j : Nat) : bytesOf (w.extract i j) = ((bytesOf w).take j).drop i := by
 simp [bytesOf, ByteArray.data_extract, List.map_drop, List.map_take, List.drop_take]
theorem isW_extract {w : ByteArray} (h : isW w = true) (i j : Nat) : isW (w.extract i j) = true := by
 simp only [isW, Bool.and_eq_true, decide_eq_true_eq, List.all_eq_true] at h ⊢
 refine ⟨by rw [ByteArray.size_extract]; omega, fun x hx => h.2 x ?_⟩
 rw [bytes_extract] at hx
 exact List.mem_of_mem_take (List.mem_of_mem_drop hx)

end Go.Proofs.Ytjmcffejpgblfaa.PF
