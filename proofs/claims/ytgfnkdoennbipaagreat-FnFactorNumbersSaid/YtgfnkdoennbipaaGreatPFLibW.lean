/- Plain facts on words: order, sorted lists of words, what the tests of words come to. -/
import Derived.Test.YtgfnkdoennbipaaGreatPFGivB
import Derived.Test.YtgfnkdoennbipaaGreatPFx1
import Derived.Test.YtgfnkdoennbipaaGreatPFx4
import Derived.Test.YtgfnkdoennbipaaGreatPFx2
import Derived.Test.YtgfnkdoennbipaaGreatPFx3
import Derived.Test.YtgfnkdoennbipaaGreatPFGivC
import Derived.Test.YtgfnkdoennbipaaGreatPFx5
namespace Go.Proofs.YtgfnkdoennbipaaGreat.PF
open Go.RowKit Go.Proofs.YtgfnkdoennbipaaGreatW.PrintWords Go.Proofs.YtgfnkdoennbipaaGreatW.PrintLast Go.Proofs.YtgfnkdoennbipaaGreatW.PrintMore
set_option linter.unusedVariables false
set_option linter.unusedSimpArgs false

theorem wrap_id {x : Int} (h0 : -9223372036854775808 ≤ x) (h1 : x ≤ 9223372036854775807) : wrap64 x = x := by
 unfold wrap64; omega

/-! ### order -/
theorem less_iff : ∀ a b : List UInt8, Op.bytesLess a b = true ↔ a < b
 | [], [] => by simp [Op.bytesLess]
 | [], b :: y => by simp [Op.bytesLess]
 | a :: x, [] => by simp [Op.bytesLess]
 | a :: x, b :: y => by
  rw [List.cons_lt_cons_iff, ← less_iff x y]
  simp [Op.bytesLess]

theorem toList_eq (a : ByteArray) : a.toList = a.data.toList := ByteArray.toList_eq a
theorem ba_ext {a b : ByteArray} (h : a.data.toList = b.data.toList) : a = b := ByteArray.ext (Array.toList_inj.1 h)
theorem ba_inj {a b : ByteArray} : a.toList = b.toList ↔ a = b := ⟨fun h => ba_ext (by rw [← toList_eq, ← toList_eq]; exact h), fun h => by rw [h]⟩
theorem ba_mk (a : ByteArray) : (⟨a.data.toList.toArray⟩ : ByteArray) = a := by cases a; simp

/-- Words strictly in order. -/
def SS (l : List ByteArray) : Prop := l.Pairwise fun a b => a.toList < b.toList

theorem SS_uniq : ∀ {l l' : List ByteArray}, SS l → SS l' → (∀ x, x ∈ l ↔ x ∈ l') → l = l'
 | [], [], _, _, _ => rfl
 | [], b :: l', _, _, h => by have := (h b).2 (by simp); simp at this
 | a :: l, [], _, _, h => by have := (h a).1 (by simp); simp at this
 | a :: l, b :: l', h1, h2, h => by
  obtain ⟨h1a, h1b⟩ := List.pairwise_cons.1 h1
  obtain ⟨h2a, h2b⟩ := List.pairwise_cons.1 h2
  have hab : a = b := by
   rcases List.mem_cons.1 ((h a).1 (by simp)) with e | hm
   ·
    exact e
   ·
    rcases List.mem_cons.1 ((h b).2 (by simp)) with e | hm2
    ·
     exact e.symm
    ·
     exact absurd (List.lt_trans (h1a b hm2) (h2a a hm)) (List.lt_irrefl _)
  subst hab
  refine congrArg _ (SS_uniq h1b h2b fun x => ⟨fun hx => ?_, fun hx => ?_⟩)
  ·
   rcases List.mem_cons.1 ((h x).1 (by simp [hx])) with e | hm
   ·
    subst e; exact absurd (h1a x hx) (List.lt_irrefl _)
   ·
    exact hm
  ·
   rcases List.mem_cons.1 ((h x).2 (by simp [hx])) with e | hm
   ·
    subst e; exact absurd (h2a x hx) (List.lt_irrefl _)
   ·
    exact hm

theorem SS_nodup {l : List ByteArray} (h : SS l) : l.Nodup := h.imp fun hab e => by subst e; exact absurd hab (List.lt_irrefl _)

/-! ### sorted lists -/
theorem mem_compact (zs : List (List UInt8)) (y : List UInt8) : y ∈ Lib.compact zs ↔ y ∈ zs := by
 unfold Lib.compact Lib.compactUpTo
 simp only [List.mem_map, List.mem_filter, List.mem_range]
 constructor
 ·
  rintro ⟨j, ⟨hj, _⟩, rfl⟩
  simp [hj]
 ·
  intro hy
  obtain ⟨j, hj, hjy⟩ := List.getElem_of_mem hy
  have key : ∀ n, ∀ j, j ≤ n → (hj : j < zs.length) → zs[j] = y → ∃ a, (a < zs.length ∧ Lib.keeps zs.toArray a = true) ∧ zs.toArray[a]! = y := by
   intro n
   induction n with
   | zero =>
    intro j hn hj hjy
    obtain rfl : j = 0 := by omega
    exact ⟨0, ⟨hj, Lib.keeps_lt_one _ 0 (by omega)⟩, by simp [hj, hjy]⟩
   | succ n ih =>
    intro j hn hj hjy
    by_cases hk : Lib.keeps zs.toArray j = true
    ·
     exact ⟨j, ⟨hj, hk⟩, by simp [hj, hjy]⟩
    ·
     have hj0 : j ≠ 0 := fun e => hk (by rw [e]; exact Lib.keeps_lt_one _ 0 (by omega))
     have he : zs.toArray[j]! = zs.toArray[j - 1]! := by
      by_cases he : zs.toArray[j]! = zs.toArray[j - 1]!
      ·
       exact he
      ·
       exact absurd (Lib.keeps_pos he) hk
     have hj1 : j - 1 < zs.length := by omega
     refine ih (j - 1) (by omega) hj1 ?_
     simp [hj, hj1] at he
     rw [← he]; exact hjy
  exact key j j (Nat.le_refl _) hj hjy

theorem compact_lt {zs : List (List UInt8)} (h : zs.Pairwise (· ≤ ·)) : (Lib.compact zs).Pairwise (· < ·) := by
 unfold Lib.compact Lib.compactUpTo
 rw [List.pairwise_map]
 refine List.Pairwise.imp_of_mem ?_ (List.Pairwise.filter _ List.pairwise_lt_range)
 intro i j hi hj hij
 obtain ⟨hi1, hi2⟩ := List.mem_filter.1 hi
 obtain ⟨hj1, hj2⟩ := List.mem_filter.1 hj
 simp only [List.mem_range] at hi1 hj1
 have hne : zs.toArray[j]! ≠ zs.toArray[j - 1]! := by
  intro e
  rw [Lib.keeps_neg (by omega) e] at hj2
  cases hj2
 have hj3 : j - 1 < zs.length := by omega
 have hle : ∀ a b (ha : a < zs.length) (hb : b < zs.length), a ≤ b → zs[a] ≤ zs[b] := by
  intro a b ha hb hab
  rcases Nat.lt_or_ge a b with hlt | hge
  ·
   exact List.pairwise_iff_getElem.1 h a b ha hb hlt
  ·
   obtain rfl : a = b := by omega
   exact List.le_refl _
 have h1 := hle i (j - 1) hi1 hj3 (by omega)
 have h2 := hle (j - 1) j hj3 hj1 (by omega)
 simp [hi1, hj1, hj3] at hne ⊢
 exact List.lt_of_le_of_lt h1 (Std.lt_of_le_of_ne h2 (fun e => hne e.symm))

/-- The words of a list, in order, each once. -/
def canon (l : List ByteArray) : List ByteArray := (sortedL (l.map fun b => b.data.toList)).map fun x => ⟨x.toArray⟩

theorem canon_SS (l : List ByteArray) : SS (canon l) := by
 unfold SS canon sortedL
 rw [List.pairwise_map]
 have h := List.pairwise_mergeSort (le := fun x y : List UInt8 => decide (x ≤ y)) (fun a b c h1 h2 => by simp only [decide_eq_true_eq] at *; exact List.le_trans h1 h2)
  (fun a b => by rcases List.le_total a b with h | h <;> simp [h]) (l.map fun b => b.data.toList)
 simp only [decide_eq_true_eq] at h
 exact (compact_lt h).imp fun hab => by rw [toList_eq, toList_eq]; exact hab

theorem mem_canon (l : List ByteArray) (x : ByteArray) : x ∈ canon l ↔ x ∈ l := by
 unfold canon sortedL
 simp only [List.mem_map, mem_compact, List.mem_mergeSort]
 constructor
 ·
  rintro ⟨_, ⟨a, ha, rfl⟩, rfl⟩; rw [ba_mk]; exact ha
 ·
  intro hx; exact ⟨_, ⟨x, hx, rfl⟩, ba_mk x⟩

theorem canon_eq {l r : List ByteArray} (h : SS r) (hm : ∀ x, x ∈ r ↔ x ∈ l) : r = canon l := SS_uniq h (canon_SS l) fun x => by rw [hm, mem_canon]

theorem canon_length_le (l : List ByteArray) : (canon l).length ≤ l.length := by
 unfold canon sortedL
 rw [List.length_map]
 have := Lib.compact_length_le ((l.map fun b => b.data.toList).mergeSort fun x y => decide (x ≤ y))
 rw [List.length_mergeSort, List.length_map] at this
 exact this

theorem sorted_f {l : List ByteArray} (h : l.length < 4611686018427387904) : impl_sorted.f l = some (canon l) := by
 unfold impl_sorted.f; rw [if_pos h]; rfl

/-! ### tests of words -/
theorem drop_bytes (a : ByteArray) (i : Nat) (h : i < a.size) : (bytesOf a).drop i = bt a (i : Int) :: (bytesOf a).drop (i + 1) := by
 rw [rd_drop _ i (by rw [bytesOf_length]; exact h), rd_bytesOf]

theorem is_loop (a : ByteArray) (ha : a.size ≤ 9000000000000000000) : ∀ (d k i : Nat), i + d = a.size → d < k → spec_l01Is.l0 k a (i : Int) = some (decide (a.size ≤ 60) && ((bytesOf a).drop i).all isLet) := by
 intro d
 induction d with
 | zero =>
  intro k i hd hk
  obtain ⟨k, rfl⟩ : ∃ m, k = m + 1 := ⟨k - 1, by omega⟩
  simp only [spec_l01Is.l0]
  rw [if_neg (by omega), List.drop_eq_nil_of_le (by rw [bytesOf_length]; omega)]
  simp
  omega
 | succ d ih =>
  intro k i hd hk
  obtain ⟨k, rfl⟩ : ∃ m, k = m + 1 := ⟨k - 1, by omega⟩
  simp only [spec_l01Is.l0]
  rw [if_pos (by omega), if_pos (by omega), drop_bytes a i (by omega)]
  simp only [List.all_cons, isLet]
  by_cases h1 : bt a (i : Int) < 97
  ·
   rw [if_pos h1, decide_eq_false (by omega : ¬ 97 ≤ bt a (i : Int))]; simp
  ·
   rw [if_neg h1]
   by_cases h2 : bt a (i : Int) > 101
   ·
    rw [if_pos h2, decide_eq_false (by omega : ¬ bt a (i : Int) < 102)]; simp
   ·
    rw [if_neg h2, decide_eq_true (by omega : 97 ≤ bt a (i : Int)), decide_eq_true (by omega : bt a (i : Int) < 102), wrap_id (by omega) (by omega)]
    rw [show (i : Int) + 1 = ((i + 1 : Nat) : Int) from rfl, ih k (i + 1) (by omega) (by omega)]
    simp [isLet]

theorem l01Is_ev (a : ByteArray) (ha : a.size ≤ 9000000000000000000) : Ev (fun k => spec_l01Is.f k a) (isW a) :=
 ⟨a.size + 1, fun k hk => by
  have h := is_loop a ha a.size k 0 (by omega) (by omega)
  exact h⟩

theorem isW_size {a : ByteArray} (h : isW a = true) : a.size ≤ 60 := by
 simp only [isW, Bool.and_eq_true, decide_eq_true_eq] at h; exact h.1

/-- The code of words with a range. -/
def codeW (b : Bool) (l : List ByteArray) : Int := if l.all isW = true then (if b = true then 0 else 2) else 1
theorem wordCode_f (k : Nat) (b : Bool) (l : List ByteArray) : impl_wordCode.f k (some b) l = some (codeW b l) := by
 unfold impl_wordCode.f codeW
 split
 ·
  simp only [Option.bind_some]; split <;> rfl
 ·
  rfl

end Go.Proofs.YtgfnkdoennbipaaGreat.PF

namespace Go.Proofs.YtgfnkdoennbipaaGreat.PF
open Go.RowKit Go.Proofs.YtgfnkdoennbipaaGreatW.PrintWords Go.Proofs.YtgfnkdoennbipaaGreatW.PrintLast Go.Proofs.YtgfnkdoennbipaaGreatW.PrintMore
set_option linter.unusedVariables false
set_option linter.unusedSimpArgs false

theorem ev_bnd {α β : Type} {g : Nat → Option α} {f : Nat → α → Option β} {a : α} {r : β} (h1 : Ev g a) (h2 : Ev (fun k => f k a) r) : Ev (fun k => (g k).bind (f k)) r := by
 obtain ⟨K1, h1⟩ := h1
 obtain ⟨K2, h2⟩ := h2
 exact ⟨K1 + K2, fun k hk => by show (g k).bind (f k) = some r; rw [h1 k (by omega)]; exact h2 k (by omega)⟩
theorem ev_of {α : Type} {c : Option α} {r : α} (h : c = some r) : Ev (fun _ => c) r := ⟨0, fun _ _ => h⟩
theorem ev_suc {α : Type} {g : Nat → Option α} {r : α} (h : Ev (fun k => g (k + 1)) r) : Ev g r := by
 obtain ⟨K, h⟩ := h
 exact ⟨K + 1, fun k hk => by obtain ⟨k, rfl⟩ : ∃ n, k = n + 1 := ⟨k - 1, by omega⟩; exact h k (by omega)⟩
theorem ev_get {α : Type} {g : Nat → Option α} {r : α} (h : Ev g r) : ∃ k, g k = some r := by obtain ⟨K, h⟩ := h; exact ⟨K, h K (Nat.le_refl _)⟩
theorem ev_congr {α : Type} {g : Nat → Option α} {r r' : α} (h : Ev g r) (e : r = r') : Ev g r' := e ▸ h

theorem bne_false {α : Type} [BEq α] [ReflBEq α] (a : α) : (a != a) = false := by simp [bne]

theorem wrap_nat {x : Int} {n : Nat} (h : x = n) (hn : n ≤ 4611686018427387904) : wrap64 x = (n : Int) := by rw [h, wrap_id (by omega) (by omega)]
theorem wrap_succ {i : Nat} (hn : i < 4611686018427387904) : wrap64 ((i : Int) + 1) = ((i + 1 : Nat) : Int) := wrap_nat (n := i + 1) (by omega) (by omega)
theorem rd_nat (l : List Int) (i : Nat) (h : i < l.length) : rd l (i : Int) = l[i] := by simp [rd, h]
theorem rdOf_nat {α : Type} (d : α) (l : List α) (i : Nat) (h : i < l.length) : rdOf d l (i : Int) = l[i] := by simp [rdOf, h]

end Go.Proofs.YtgfnkdoennbipaaGreat.PF

namespace Go.Proofs.YtgfnkdoennbipaaGreat.PF
open Go.RowKit Go.Proofs.YtgfnkdoennbipaaGreatW.PrintWords Go.Proofs.YtgfnkdoennbipaaGreatW.PrintLast Go.Proofs.YtgfnkdoennbipaaGreatW.PrintMore
set_option linter.unusedVariables false
set_option linter.unusedSimpArgs false

theorem codeW_zero {b : Bool} {l : List ByteArray} : codeW b l = 0 ↔ l.all isW = true ∧ b = true := by
 unfold codeW
 by_cases h : l.all isW = true <;> cases b <;> simp [h]

theorem sz_word {w : ByteArray} {l : List ByteArray} {b : Bool} (h : codeW b (w :: l) = 0) : w.size ≤ 60 := by
 have := (codeW_zero.1 h).1
 simp only [List.all_cons, Bool.and_eq_true] at this
 exact isW_size this.1
theorem sz_word2 {w v : ByteArray} {l : List ByteArray} {b : Bool} (h : codeW b (w :: v :: l) = 0) : v.size ≤ 60 := by
 have := (codeW_zero.1 h).1
 simp only [List.all_cons, Bool.and_eq_true] at this
 exact isW_size this.2.1
theorem codeW_le {b : Bool} {l : List ByteArray} : codeW b l = 0 ∨ codeW b l = 1 ∨ codeW b l = 2 := by unfold codeW; split <;> (try split) <;> simp

end Go.Proofs.YtgfnkdoennbipaaGreat.PF

namespace Go.Proofs.YtgfnkdoennbipaaGreat.PF
open Go.RowKit Go.Proofs.YtgfnkdoennbipaaGreatW.PrintWords Go.Proofs.YtgfnkdoennbipaaGreatW.PrintLast Go.Proofs.YtgfnkdoennbipaaGreatW.PrintMore
set_option linter.unusedVariables false
set_option linter.unusedSimpArgs false

theorem ba_toList_inj {a b : ByteArray} : (a.toList = b.toList) = (a = b) := propext ba_inj

theorem hasPrefix_f (a b : ByteArray) (ha : a.size ≤ 9000000000000000000) : strings_HasPrefix.f a b = some (decide (b.size ≤ a.size ∧ a.extract 0 b.size = b)) := by
 unfold strings_HasPrefix.f stringslite_HasPrefix.f
 by_cases h : b.size ≤ a.size
 ·
  simp only [show (a.size : Int) ≥ (b.size : Int) by omega, show (0 : Int) ≤ (b.size : Int) by omega, if_true, show (b.size : Int) ≤ (a.size : Int) by omega, Int.toNat_natCast, Option.bind_some, h, true_and]
  rw [Bool.beq_eq_decide_eq]
  simp only [ba_toList_inj]
 ·
  simp only [show ¬ (a.size : Int) ≥ (b.size : Int) by omega, if_false, Option.bind_some, h, false_and, decide_false]

theorem hasPrefix_at (w v : ByteArray) (i : Nat) (hi : i ≤ w.size) (hw : w.size ≤ 9000000000000000000) : strings_HasPrefix.f (w.extract i w.size) v = some (decide (i + v.size ≤ w.size ∧ w.extract i (i + v.size) = v)) := by
 rw [hasPrefix_f _ _ (by rw [ByteArray.size_extract]; omega)]
 congr 1
 rw [decide_eq_decide, ByteArray.size_extract, ByteArray.extract_extract]
 constructor
 ·
  rintro ⟨h1, h2⟩
  have : i + v.size ≤ w.size := by omega
  refine ⟨this, ?_⟩
  rwa [Nat.add_zero, Nat.min_eq_left this] at h2
 ·
  rintro ⟨h1, h2⟩
  refine ⟨by omega, ?_⟩
  rwa [Nat.add_zero, Nat.min_eq_left h1]

end Go.Proofs.YtgfnkdoennbipaaGreat.PF

namespace Go.Proofs.YtgfnkdoennbipaaGreat.PF
open Go.RowKit Go.Proofs.YtgfnkdoennbipaaGreatW.PrintWords Go.Proofs.YtgfnkdoennbipaaGreatW.PrintLast Go.Proofs.YtgfnkdoennbipaaGreatW.PrintMore
set_option linter.unusedVariables false
set_option linter.unusedSimpArgs false

/-- Is a number in a range? -/
def inR (n lo hi : Int) : Bool := decide (lo ≤ n) && decide (n ≤ hi)
theorem l01In_f (n lo hi : Int) : spec_l01In.f n lo hi = some (inR n lo hi) := by
 unfold spec_l01In.f inR
 by_cases h : n ≥ lo
 ·
  rw [if_pos h, decide_eq_true (show lo ≤ n from h)]; simp
 ·
  rw [if_neg h, decide_eq_false (show ¬ lo ≤ n from h)]; simp
theorem within_f (n lo hi : Int) : impl_within.f n lo hi = some (inR n lo hi) := by
 unfold impl_within.f inR
 by_cases h : lo ≤ n
 ·
  rw [if_pos h, decide_eq_true h]; simp
 ·
  rw [if_neg h, decide_eq_false h]; simp
theorem inR_iff {n lo hi : Int} : inR n lo hi = true ↔ lo ≤ n ∧ n ≤ hi := by simp [inR]
theorem range_nat {l : List ByteArray} {m lo hi : Int} (h : codeW (inR m lo hi) l = 0) (h0 : 0 ≤ lo) : ∃ n : Nat, m = n ∧ lo ≤ (n : Int) ∧ (n : Int) ≤ hi := by
 have := inR_iff.1 (codeW_zero.1 h).2
 exact ⟨m.toNat, by omega, by omega, by omega⟩
end Go.Proofs.YtgfnkdoennbipaaGreat.PF

namespace Go.Proofs.YtgfnkdoennbipaaGreat.PF
open Go.RowKit Go.Proofs.YtgfnkdoennbipaaGreatW.PrintWords Go.Proofs.YtgfnkdoennbipaaGreatW.PrintLast Go.Proofs.YtgfnkdoennbipaaGreatW.PrintMore
set_option linter.unusedVariables false
set_option linter.unusedSimpArgs false

theorem l05Code_ev (a : ByteArray) (m : Int) (ha : a.size ≤ 9000000000000000000) : Ev (fun k => spec_l05Code.f k a m) (codeW (inR m 0 60) [a]) := by
 unfold spec_l05Code.f
 refine ev_bnd (l01Is_ev a ha) ?_
 simp only [l01In_f, Option.bind_some]
 refine ev_of ?_
 unfold codeW
 by_cases h1 : isW a = true <;> by_cases h2 : inR m 0 60 = true <;> simp [h1, h2]

end Go.Proofs.YtgfnkdoennbipaaGreat.PF

namespace Go.Proofs.YtgfnkdoennbipaaGreat.PF
open Go.RowKit Go.Proofs.YtgfnkdoennbipaaGreatW.PrintWords Go.Proofs.YtgfnkdoennbipaaGreatW.PrintLast Go.Proofs.YtgfnkdoennbipaaGreatW.PrintMore
set_option linter.unusedVariables false
set_option linter.unusedSimpArgs false

theorem rdOf_get {α : Type} (d : α) (l : List α) (i : Nat) (h : i < l.length) : rdOf d l (i : Int) = l[i] := by
 simp [rdOf, h]

/-- The reference's insertion: from place n down; what lies from n on is greater. -/
theorem put_loop (l : List ByteArray) (x : ByteArray) (hS : SS l) (hl : l.length < 4000000000000) : ∀ (n k : Nat), n ≤ l.length → n < k → (∀ j (hj : j < l.length), n ≤ j → x.toList < l[j].toList) →
  ∃ r, spec_l01Put.l0 k l x (n : Int) = some r ∧ SS r ∧ (∀ y, y ∈ r ↔ y ∈ l ∨ y = x) := by
 intro n
 induction n with
 | zero =>
  intro k hn hk hgt
  obtain ⟨k, rfl⟩ : ∃ m, k = m + 1 := ⟨k - 1, by omega⟩
  refine ⟨x :: l, ?_, ?_, ?_⟩
  ·
   simp only [spec_l01Put.l0]
   rw [if_neg (by omega)]
   try simp only [Option.bind_some]
   rw [if_pos (by omega), if_pos (by omega)]
   simp only [Int.toNat_natCast, List.take_zero, List.drop_zero, List.nil_append, List.length_nil, List.length_singleton]
   rw [if_pos (by omega)]
   try simp only [Option.bind_some]
   rw [if_pos (by omega)]
   simp only [Option.bind_some, List.singleton_append]
   rw [if_pos (by first | omega | (simp; omega))]
  ·
   refine List.pairwise_cons.2 ⟨fun y hy => ?_, hS⟩
   obtain ⟨j, hj, rfl⟩ := List.getElem_of_mem hy
   exact hgt j hj (by omega)
  ·
   intro y; simp [or_comm]
 | succ n ih =>
  intro k hn hk hgt
  obtain ⟨k, rfl⟩ : ∃ m, k = m + 1 := ⟨k - 1, by omega⟩
  have hw : wrap64 (((n + 1 : Nat) : Int) - 1) = (n : Int) := by rw [wrap_id (by omega) (by omega)]; omega
  simp only [spec_l01Put.l0, hw]
  rw [if_pos (by omega), if_pos (by omega), if_pos (by omega), rdOf_get _ _ n (by omega)]
  by_cases h1 : Op.bytesLess x.toList l[n].toList = true
  ·
   rw [if_pos h1]
   refine ih k (by omega) (by omega) ?_
   intro j hj hnj
   by_cases e : j = n
   ·
    subst e; exact (less_iff _ _).1 h1
   ·
    exact hgt j hj (by omega)
  ·
   rw [if_neg h1]
   by_cases h2 : l[n].toList = x.toList
   ·
    rw [if_pos h2]
    have hx := ba_inj.1 h2
    exact ⟨l, rfl, hS, fun y => ⟨.inl, fun h => h.elim id (fun e => by rw [e, ← hx]; exact List.getElem_mem _)⟩⟩
   ·
    rw [if_neg h2]
    have hlt : l[n].toList < x.toList := by
     have : ¬ x.toList < l[n].toList := fun h => h1 ((less_iff _ _).2 h)
     exact Std.lt_of_le_of_ne this h2
    refine ⟨l.take (n + 1) ++ [x] ++ l.drop (n + 1), ?_, ?_, ?_⟩
    ·
     simp only [Option.bind_some]
     rw [if_pos (by omega), if_pos (by omega)]
     simp only [Int.toNat_natCast, List.nil_append, List.length_nil, Nat.zero_add]
     rw [if_pos (by rw [List.length_take]; omega)]
     try simp only [Option.bind_some]
     rw [if_pos (by rw [List.length_take]; omega)]
     try simp only [Option.bind_some]
     rw [if_pos (by simp only [List.length_append, List.length_take, List.length_singleton, List.length_drop]; omega)]
    ·
     have htd : SS (l.take (n + 1) ++ l.drop (n + 1)) := by rw [List.take_append_drop]; exact hS
     obtain ⟨p1, p2, p3⟩ := List.pairwise_append.1 htd
     unfold SS
     rw [List.append_assoc]
     refine List.pairwise_append.2 ⟨p1, ?_, ?_⟩
     ·
      rw [List.singleton_append]
      refine List.pairwise_cons.2 ⟨fun y hy => ?_, p2⟩
      obtain ⟨j, hj, rfl⟩ := List.getElem_of_mem hy
      rw [List.getElem_drop]
      rw [List.length_drop] at hj
      exact hgt (n + 1 + j) (by omega) (by omega)
     ·
      intro a ha b hb
      have hax : a.toList < x.toList := by
       obtain ⟨j, hj, rfl⟩ := List.getElem_of_mem ha
       rw [List.length_take] at hj
       rw [List.getElem_take]
       by_cases e : j = n
       ·
        subst e; exact hlt
       ·
        exact List.lt_trans (List.pairwise_iff_getElem.1 hS j n (by omega) (by omega) (by omega)) hlt
      rcases List.mem_append.1 hb with hb | hb
      ·
       obtain rfl := List.mem_singleton.1 hb; exact hax
      ·
       exact p3 a ha b hb
    ·
     intro y
     have : y ∈ l ↔ y ∈ l.take (n + 1) ∨ y ∈ l.drop (n + 1) := by rw [← List.mem_append, List.take_append_drop]
     rw [this]
     simp only [List.mem_append, List.mem_singleton]
     constructor
     ·
      rintro ((h | h) | h)
      ·
       exact .inl (.inl h)
      ·
       exact .inr h
      ·
       exact .inl (.inr h)
     ·
      rintro ((h | h) | h)
      ·
       exact .inl (.inl h)
      ·
       exact .inr h
      ·
       exact .inl (.inr h)

theorem put_ev (l : List ByteArray) (x : ByteArray) (hl : l.length < 4000000000000) : ∀ k, l.length < k → spec_l01Put.f k (canon l) x = some (canon (l ++ [x])) := by
 intro k hk
 have hle := canon_length_le l
 obtain ⟨r, h1, h2, h3⟩ := put_loop (canon l) x (canon_SS l) (by omega) (canon l).length k (Nat.le_refl _) (by omega) (fun j hj hn => by omega)
 unfold spec_l01Put.f
 rw [h1, canon_eq h2 (l := l ++ [x]) (fun y => by rw [h3, mem_canon]; simp)]

/-- The factors of a length, place by place, from place i on. -/
def fcsFrom (w : ByteArray) (m : Nat) : Nat → Nat → List ByteArray
 | 0, _ => []
 | d + 1, i => w.extract i (i + m) :: fcsFrom w m d (i + 1)
/-- How many places a factor of a length has. -/
def plc (w : ByteArray) (m : Nat) : Nat := w.size + 1 - m
def fcs (w : ByteArray) (m : Nat) : List ByteArray := fcsFrom w m (plc w m) 0
/-- The different factors of a length, in order. -/
def fac (w : ByteArray) (m : Nat) : List ByteArray := canon (fcs w m)

theorem fcsFrom_length (w : ByteArray) (m : Nat) : ∀ d i, (fcsFrom w m d i).length = d
 | 0, _ => rfl
 | d + 1, i => by rw [fcsFrom, List.length_cons, fcsFrom_length w m d]

theorem mem_fcsFrom (w : ByteArray) (m : Nat) (x : ByteArray) : ∀ d i, x ∈ fcsFrom w m d i ↔ ∃ j, i ≤ j ∧ j < i + d ∧ x = w.extract j (j + m)
 | 0, i => by simp [fcsFrom]; intro j h1 h2; omega
 | d + 1, i => by
  rw [fcsFrom, List.mem_cons, mem_fcsFrom w m x d (i + 1)]
  constructor
  ·
   rintro (h | ⟨j, h1, h2, h3⟩)
   ·
    exact ⟨i, by omega, by omega, h⟩
   ·
    exact ⟨j, by omega, by omega, h3⟩
  ·
   rintro ⟨j, h1, h2, h3⟩
   by_cases e : j = i
   ·
    subst e; exact .inl h3
   ·
    exact .inr ⟨j, by omega, by omega, h3⟩

theorem mem_fac (w : ByteArray) (m : Nat) (x : ByteArray) : x ∈ fac w m ↔ ∃ j, j + m ≤ w.size ∧ x = w.extract j (j + m) := by
 unfold fac fcs plc
 rw [mem_canon, mem_fcsFrom]
 constructor
 ·
  rintro ⟨j, _, h2, h3⟩; exact ⟨j, by omega, h3⟩
 ·
  rintro ⟨j, h2, h3⟩; exact ⟨j, by omega, by omega, h3⟩

theorem fac_SS (w : ByteArray) (m : Nat) : SS (fac w m) := canon_SS _
theorem fac_length_le (w : ByteArray) (m : Nat) : (fac w m).length ≤ w.size + 1 - m := by
 have := canon_length_le (fcs w m); unfold fcs at this; rw [fcsFrom_length] at this; exact this

theorem extract_size (w : ByteArray) {i j : Nat} (h1 : i ≤ j) (h2 : j ≤ w.size) : (w.extract i j).size = j - i := by
 rw [ByteArray.size_extract]; omega

theorem impl_factors_loop (w : ByteArray) (m : Nat) (hw : w.size ≤ 1000000) (hm : m ≤ 1000000) : ∀ (d k i : Nat) (acc : List ByteArray), i + d = plc w m → acc.length = i → d < k →
  impl_factors.l0 k w (m : Int) acc (i : Int) = some (canon (acc ++ fcsFrom w m d i)) := by
 intro d
 induction d with
 | zero =>
  intro k i acc hd ha hk
  obtain ⟨k, rfl⟩ : ∃ n, k = n + 1 := ⟨k - 1, by omega⟩
  unfold plc at hd
  simp only [impl_factors.l0]
  rw [wrap_id (by omega) (by omega), if_neg (by omega), sorted_f (by omega)]
  simp [fcsFrom]
 | succ d ih =>
  intro k i acc hd ha hk
  obtain ⟨k, rfl⟩ : ∃ n, k = n + 1 := ⟨k - 1, by omega⟩
  have hd' := hd
  unfold plc at hd'
  simp only [impl_factors.l0]
  rw [wrap_id (x := (i : Int) + m) (by omega) (by omega), if_pos (by omega), if_pos (by omega), if_pos (by omega), if_pos (by omega), wrap_id (x := (i : Int) + 1) (by omega) (by omega)]
  rw [show (i : Int) + 1 = ((i + 1 : Nat) : Int) from rfl, ih k (i + 1) _ (by omega) (by simp [ha]) (by omega)]
  rw [show ((i : Int) + (m : Int)).toNat = i + m by omega, Int.toNat_natCast]
  simp [fcsFrom]

theorem impl_factors_ev (w : ByteArray) (m : Nat) (hw : w.size ≤ 1000000) (hm : m ≤ 1000000) : Ev (fun k => impl_factors.f k w (m : Int)) (fac w m) :=
 ⟨w.size + 2, fun k hk => by
  have h := impl_factors_loop w m hw hm (plc w m) k 0 [] (by omega) rfl (by unfold plc; omega)
  exact h⟩

theorem canon_nil : canon [] = [] := List.eq_nil_iff_forall_not_mem.2 fun x hx => by rw [mem_canon] at hx; cases hx

end Go.Proofs.YtgfnkdoennbipaaGreat.PF

namespace Go.Proofs.YtgfnkdoennbipaaGreat.PF
open Go.RowKit Go.Proofs.YtgfnkdoennbipaaGreatW.PrintWords Go.Proofs.YtgfnkdoennbipaaGreatW.PrintLast Go.Proofs.YtgfnkdoennbipaaGreatW.PrintMore
set_option linter.unusedVariables false
set_option linter.unusedSimpArgs false

theorem spec_factors_loop (w : ByteArray) (m : Nat) (hw : w.size ≤ 1000000) (hm : m ≤ 1000000) : ∀ (d k i : Nat) (acc : List ByteArray), i + d = plc w m → acc.length = i → d + i + 2 < k →
  spec_l01Factors.l0 (k + d) w (m : Int) (canon acc) (i : Int) = some (canon (acc ++ fcsFrom w m d i)) := by
 intro d
 induction d with
 | zero =>
  intro k i acc hd ha hk
  obtain ⟨k, rfl⟩ : ∃ n, k = n + 1 := ⟨k - 1, by omega⟩
  unfold plc at hd
  simp only [spec_l01Factors.l0]
  rw [wrap_id (by omega) (by omega), if_neg (by omega)]
  simp [fcsFrom]
 | succ d ih =>
  intro k i acc hd ha hk
  have hd' := hd
  unfold plc at hd'
  rw [show k + (d + 1) = (k + d) + 1 by omega]
  simp only [spec_l01Factors.l0]
  rw [wrap_id (x := (i : Int) + m) (by omega) (by omega), if_pos (by omega), if_pos (by omega), if_pos (by omega), wrap_id (x := (i : Int) + 1) (by omega) (by omega)]
  rw [put_ev acc _ (by omega) (k + d) (by omega)]
  try simp only [Option.bind_some]
  rw [show (i : Int) + 1 = ((i + 1 : Nat) : Int) from rfl, ih k (i + 1) _ (by omega) (by simp [ha]) (by omega)]
  rw [show ((i : Int) + (m : Int)).toNat = i + m by omega, Int.toNat_natCast]
  simp [fcsFrom]

theorem spec_factors_ev (w : ByteArray) (m : Nat) (hw : w.size ≤ 1000000) (hm : m ≤ 1000000) : Ev (fun k => spec_l01Factors.f k w (m : Int)) (fac w m) :=
 ⟨2 * w.size + 10, fun k hk => by
  have h := spec_factors_loop w m hw hm (plc w m) (k - plc w m) 0 [] (by omega) rfl (by unfold plc; omega)
  rw [show k - plc w m + plc w m = k by unfold plc; omega, canon_nil] at h
  exact h⟩

end Go.Proofs.YtgfnkdoennbipaaGreat.PF

namespace Go.Proofs.YtgfnkdoennbipaaGreat.PF
open Go.RowKit Go.Proofs.YtgfnkdoennbipaaGreatW.PrintWords Go.Proofs.YtgfnkdoennbipaaGreatW.PrintLast Go.Proofs.YtgfnkdoennbipaaGreatW.PrintMore
set_option linter.unusedVariables false
set_option linter.unusedSimpArgs false

theorem isLength_f (m : Int) : impl_isLength.f m = some (inR m 0 60) := by unfold impl_isLength.f; rw [within_f]; rfl

end Go.Proofs.YtgfnkdoennbipaaGreat.PF

namespace Go.Proofs.YtgfnkdoennbipaaGreat.PF
open Go.RowKit Go.Proofs.YtgfnkdoennbipaaGreatW.PrintWords Go.Proofs.YtgfnkdoennbipaaGreatW.PrintLast Go.Proofs.YtgfnkdoennbipaaGreatW.PrintMore
set_option linter.unusedVariables false
set_option linter.unusedSimpArgs false

/-- The numbers of factors of lengths i, i + 1, ... -/
def numF (w : ByteArray) : Nat → Nat → List Int
 | 0, _ => []
 | d + 1, i => ((fac w i).length : Int) :: numF w d (i + 1)
theorem numF_length (w : ByteArray) : ∀ d i, (numF w d i).length = d
 | 0, _ => rfl
 | d + 1, i => by rw [numF, List.length_cons, numF_length w d]

theorem numbers_loop (w : ByteArray) (hw : w.size ≤ 60) (K : Nat) (hK : ∀ m : Nat, m ≤ 60 → ∀ k, K ≤ k → spec_l01Factors.f k w (m : Int) = some (fac w m)) : ∀ (d k i : Nat) (acc : List Int), i + d = w.size + 1 → acc.length = i → d + K < k →
  spec_l05Numbers.l0 k w acc (i : Int) = some (acc ++ numF w d i) := by
 intro d
 induction d with
 | zero =>
  intro k i acc hd ha hk
  obtain ⟨k, rfl⟩ : ∃ n, k = n + 1 := ⟨k - 1, by omega⟩
  simp only [spec_l05Numbers.l0]
  rw [if_neg (by omega)]; simp [numF]
 | succ d ih =>
  intro k i acc hd ha hk
  obtain ⟨k, rfl⟩ : ∃ n, k = n + 1 := ⟨k - 1, by omega⟩
  simp only [spec_l05Numbers.l0]
  rw [if_pos (by omega), hK i (by omega) k (by omega)]
  simp only [Option.bind_some]
  rw [if_pos (by omega), wrap_succ (by omega), ih k (i + 1) _ (by omega) (by simp [ha]) (by omega)]
  simp [numF]

theorem complexity_loop (w : ByteArray) (hw : w.size ≤ 60) (K : Nat) (hK : ∀ m : Nat, m ≤ 60 → ∀ k, K ≤ k → impl_factors.f k w (m : Int) = some (fac w m)) : ∀ (d k i : Nat) (acc : List Int), i + d = w.size + 1 → acc.length = i → d + K < k →
  impl_complexity.l0 k w acc ((w.size : Int) + 1) (i : Int) = some (acc ++ numF w d i) := by
 intro d
 induction d with
 | zero =>
  intro k i acc hd ha hk
  obtain ⟨k, rfl⟩ : ∃ n, k = n + 1 := ⟨k - 1, by omega⟩
  simp only [impl_complexity.l0]
  rw [if_neg (by omega)]; simp [numF]
 | succ d ih =>
  intro k i acc hd ha hk
  obtain ⟨k, rfl⟩ : ∃ n, k = n + 1 := ⟨k - 1, by omega⟩
  simp only [impl_complexity.l0]
  rw [if_pos (by omega), hK i (by omega) k (by omega)]
  simp only [Option.bind_some]
  rw [if_pos (by omega), wrap_succ (by omega), ih k (i + 1) _ (by omega) (by simp [ha]) (by omega)]
  simp [numF]

theorem numbers_ev (w : ByteArray) (hw : w.size ≤ 60) : Ev (fun k => spec_l05Numbers.f k w) (numF w (w.size + 1) 0) := by
 refine ⟨w.size + 1000, fun k hk => ?_⟩
 have hK : ∀ m : Nat, m ≤ 60 → ∀ k, 2 * w.size + 10 ≤ k → spec_l01Factors.f k w (m : Int) = some (fac w m) := fun m hm k hk => by
  have h := spec_factors_loop w m (by omega) (by omega) (plc w m) (k - plc w m) 0 [] (by omega) rfl (by unfold plc; omega)
  rw [show k - plc w m + plc w m = k by unfold plc; omega, canon_nil] at h
  exact h
 have h := numbers_loop w hw (2 * w.size + 10) hK (w.size + 1) k 0 [] (by omega) rfl (by omega)
 exact h

theorem complexity_ev (w : ByteArray) (hw : w.size ≤ 60) : Ev (fun k => impl_complexity.f k w) (numF w (w.size + 1) 0) := by
 refine ⟨w.size + 1000, fun k hk => ?_⟩
 have hK : ∀ m : Nat, m ≤ 60 → ∀ k, w.size + 2 ≤ k → impl_factors.f k w (m : Int) = some (fac w m) := fun m hm k hk => by
  have h := impl_factors_loop w m (by omega) (by omega) (plc w m) k 0 [] (by omega) rfl (by unfold plc; omega)
  exact h
 have h := complexity_loop w hw (w.size + 2) hK (w.size + 1) k 0 [] (by omega) rfl (by omega)
 show impl_complexity.f k w = _
 unfold impl_complexity.f
 rw [wrap_id (by omega) (by omega)]
 exact h

end Go.Proofs.YtgfnkdoennbipaaGreat.PF

namespace Go.Proofs.YtgfnkdoennbipaaGreat.PF
open Go.RowKit Go.Proofs.YtgfnkdoennbipaaGreatW.PrintWords Go.Proofs.YtgfnkdoennbipaaGreatW.PrintLast Go.Proofs.YtgfnkdoennbipaaGreatW.PrintMore
set_option linter.unusedVariables false
set_option linter.unusedSimpArgs false

theorem hasSuffix_f (a b : ByteArray) (ha : a.size ≤ 4000000000000000000) : strings_HasSuffix.f a b = some (decide (b.size ≤ a.size ∧ a.extract (a.size - b.size) a.size = b)) := by
 unfold strings_HasSuffix.f stringslite_HasSuffix.f
 by_cases h : b.size ≤ a.size
 ·
  rw [wrap_nat (n := a.size - b.size) (by omega) (by omega)]
  simp only [show (a.size : Int) ≥ (b.size : Int) by omega, show (0 : Int) ≤ ((a.size - b.size : Nat) : Int) by omega, if_true, show ((a.size - b.size : Nat) : Int) ≤ (a.size : Int) by omega, Int.toNat_natCast, Option.bind_some, h, true_and]
  rw [Bool.beq_eq_decide_eq]
  simp only [ba_toList_inj]
 ·
  simp only [show ¬ (a.size : Int) ≥ (b.size : Int) by omega, if_false, Option.bind_some, h, false_and, decide_false]

end Go.Proofs.YtgfnkdoennbipaaGreat.PF

namespace Go.Proofs.YtgfnkdoennbipaaGreat.PF
open Go.RowKit Go.Proofs.YtgfnkdoennbipaaGreatW.PrintWords Go.Proofs.YtgfnkdoennbipaaGreatW.PrintLast Go.Proofs.YtgfnkdoennbipaaGreatW.PrintMore
set_option linter.unusedVariables false
set_option linter.unusedSimpArgs false

theorem filterP_some {α : Type} {p : α → Option Bool} {q : α → Bool} : ∀ (l : List α), (∀ x ∈ l, p x = some (q x)) → filterP p l = some (l.filter fun x => !q x)
 | [], _ => rfl
 | x :: l, h => by
  rw [filterP, h x (by simp), filterP_some l (fun y hy => h y (by simp [hy]))]
  simp only [Option.bind_some, List.filter_cons]
  cases q x <;> simp

instance baLaw : LawfulBEq ByteArray where
 eq_of_beq {a b} h := by
  cases a with | mk a => cases b with | mk b =>
  have : (a == b) = true := h
  rw [eq_of_beq this]
 rfl {a} := by
  cases a with | mk a =>
  show (a == a) = true
  exact BEq.rfl

end Go.Proofs.YtgfnkdoennbipaaGreat.PF

namespace Go.Proofs.YtgfnkdoennbipaaGreat.PF
open Go.RowKit Go.Proofs.YtgfnkdoennbipaaGreatW.PrintWords Go.Proofs.YtgfnkdoennbipaaGreatW.PrintLast Go.Proofs.YtgfnkdoennbipaaGreatW.PrintMore
set_option linter.unusedVariables false
set_option linter.unusedSimpArgs false

theorem cntP_some {α : Type} {p : α → Option Bool} {q : α → Bool} : ∀ (l : List α), (∀ x ∈ l, p x = some (q x)) → cntP p l = some (l.countP q)
 | [], _ => rfl
 | x :: l, h => by
  rw [cntP, h x (by simp), cntP_some l (fun y hy => h y (by simp [hy]))]
  simp only [Option.bind_some, List.countP_cons]
  cases q x <;> simp

/-- A factor without its last letter (right) or without its first. -/
def cutF (right : Bool) (m : Nat) (v : ByteArray) : ByteArray := if right = true then v.extract 0 m else v.extract 1 v.size

theorem fac_size {w v : ByteArray} {m : Nat} (h : v ∈ fac w m) : v.size = m := by
 obtain ⟨j, h1, rfl⟩ := (mem_fac w m v).1 h
 rw [ByteArray.size_extract]; omega

theorem cut_mem {w v : ByteArray} {m : Nat} (right : Bool) (h : v ∈ fac w (m + 1)) : cutF right m v ∈ fac w m := by
 obtain ⟨j, h1, rfl⟩ := (mem_fac w (m + 1) v).1 h
 rw [mem_fac]
 cases right
 ·
  refine ⟨j + 1, by omega, ?_⟩
  simp only [cutF, Bool.false_eq_true, if_false]
  rw [ByteArray.extract_extract, ByteArray.size_extract]
  congr 1; omega
 ·
  refine ⟨j, by omega, ?_⟩
  simp only [cutF, if_true]
  rw [ByteArray.extract_extract]
  congr 1; omega

theorem dup_iff {α : Type} [BEq α] [LawfulBEq α] {l : List α} {u : α} : (∃ i j, ∃ (hi : i < l.length) (hj : j < i), l[j] = u ∧ l[i] = u) ↔ 2 ≤ l.count u := by
 constructor
 ·
  rintro ⟨i, j, hi, hj, h1, h2⟩
  have e : l = l.take i ++ l.drop i := (List.take_append_drop i l).symm
  have c1 : 0 < (l.take i).count u := List.count_pos_iff.2 (by rw [← h1, List.mem_take_iff_getElem]; exact ⟨j, by omega, rfl⟩)
  have c2 : 0 < (l.drop i).count u := List.count_pos_iff.2 (by rw [← h2, List.mem_drop_iff_getElem]; exact ⟨0, by omega, by simp⟩)
  rw [e, List.count_append]; omega
 ·
  intro h
  have hm : u ∈ l := List.count_pos_iff.1 (by omega)
  obtain ⟨a, b, rfl, hna⟩ := List.eq_append_cons_of_mem hm
  rw [List.count_append, List.count_cons_self, List.count_eq_zero_of_not_mem hna] at h
  have hb : u ∈ b := List.count_pos_iff.1 (by omega)
  obtain ⟨n, hn, e⟩ := List.getElem_of_mem hb
  refine ⟨a.length + 1 + n, a.length, by simp; omega, by omega, by simp, ?_⟩
  rw [List.getElem_append_right (by omega)]
  simp only [show a.length + 1 + n - a.length = n + 1 by omega, List.getElem_cons_succ]
  exact e

/-- The special factors. -/
def spc (w : ByteArray) (m : Nat) (right : Bool) : List ByteArray := (fac w m).filter fun u => decide (2 ≤ ((fac w (m + 1)).map (cutF right m)).count u)

theorem spc_SS (w : ByteArray) (m : Nat) (right : Bool) : SS (spc w m right) := List.Pairwise.filter _ (fac_SS w m)
theorem mem_spc {w u : ByteArray} {m : Nat} {right : Bool} : u ∈ spc w m right ↔ 2 ≤ ((fac w (m + 1)).map (cutF right m)).count u := by
 unfold spc
 rw [List.mem_filter, decide_eq_true_eq]
 constructor
 ·
  exact fun h => h.2
 ·
  intro h
  refine ⟨?_, h⟩
  obtain ⟨v, hv, rfl⟩ := List.mem_map.1 (List.count_pos_iff.1 (Nat.lt_of_lt_of_le (by omega) h))
  exact cut_mem right hv
theorem spc_length (w : ByteArray) (m : Nat) (right : Bool) : (spc w m right).length ≤ w.size + 1 := by
 have h1 := List.length_filter_le (fun u => decide (2 ≤ ((fac w (m + 1)).map (cutF right m)).count u)) (fac w m)
 have h2 := fac_length_le w m
 unfold spc; omega

theorem lessTwo_of {w : ByteArray} {m : Nat} {right : Bool} {p : ByteArray → ByteArray → Option Bool} (hp : ∀ v u, v.size = m + 1 → u.size = m → p v u = some (decide (cutF right m v = u))) {u : ByteArray} (hu : u.size = m) :
  lessTwo p (fac w (m + 1)) u = some (!decide (2 ≤ ((fac w (m + 1)).map (cutF right m)).count u)) := by
 unfold lessTwo
 rw [cntP_some (q := fun v => decide (cutF right m v = u)) _ (fun v hv => hp v u (fac_size hv) hu)]
 simp only [Option.bind_some]
 rw [List.count, List.countP_map, show ((fun x => x == u) ∘ cutF right m) = (fun v => decide (cutF right m v = u)) from funext fun v => by simp only [Function.comp]; by_cases e : cutF right m v = u <;> simp [e]]
 congr 1
 rw [← decide_not, decide_eq_decide]; omega

theorem impl_special_ev (w : ByteArray) (m : Nat) (right : Bool) (p : Nat → ByteArray → ByteArray → Option Bool) (hw : w.size ≤ 60) (hm : m ≤ 60) (hp : ∀ k v u, v.size = m + 1 → u.size = m → p k v u = some (decide (cutF right m v = u))) :
  Ev (fun k => impl_special.f k w (m : Int) (p k)) (spc w m right) := by
 unfold impl_special.f
 rw [show wrap64 ((m : Int) + 1) = ((m + 1 : Nat) : Int) from wrap_succ (by omega)]
 refine ev_bnd (impl_factors_ev w (m + 1) (by omega) (by omega)) (ev_bnd (impl_factors_ev w m (by omega) (by omega)) ⟨0, fun k _ => ?_⟩)
 show filterP _ _ = _
 rw [filterP_some _ (fun u hu => lessTwo_of (hp k) (fac_size hu))]
 simp only [Bool.not_not]; rfl

theorem prefix_cut {m : Nat} (hm : m ≤ 60) (v u : ByteArray) (hv : v.size = m + 1) (hu : u.size = m) : strings_HasPrefix.f v u = some (decide (cutF true m v = u)) := by
 rw [hasPrefix_f _ _ (by omega), hu]
 simp only [show m ≤ v.size by omega, true_and, cutF, if_true]
theorem suffix_cut {m : Nat} (hm : m ≤ 60) (v u : ByteArray) (hv : v.size = m + 1) (hu : u.size = m) : strings_HasSuffix.f v u = some (decide (cutF false m v = u)) := by
 rw [hasSuffix_f _ _ (by omega), hu, show v.size - m = 1 by omega]
 simp only [show m ≤ v.size by omega, true_and, cutF, Bool.false_eq_true, if_false]

/-! ### the reference -/
def rowD (x : List ByteArray) (i : Nat) : Nat → Nat → List ByteArray
 | 0, _ => []
 | d + 1, j => if (rdOf ByteArray.empty x (j : Int)) = (rdOf ByteArray.empty x (i : Int)) then rdOf ByteArray.empty x (i : Int) :: rowD x i d (j + 1) else rowD x i d (j + 1)
def allD (x : List ByteArray) : Nat → Nat → List ByteArray
 | 0, _ => []
 | d + 1, i => rowD x i i 0 ++ allD x d (i + 1)
theorem rowD_length (x : List ByteArray) (i : Nat) : ∀ d j, (rowD x i d j).length ≤ d
 | 0, _ => Nat.le_refl _
 | d + 1, j => by
  have := rowD_length x i d (j + 1)
  rw [rowD]; split
  ·
   rw [List.length_cons]; omega
  ·
   omega
theorem mem_rowD (x : List ByteArray) (i : Nat) (u : ByteArray) : ∀ d j, u ∈ rowD x i d j ↔ rdOf ByteArray.empty x (i : Int) = u ∧ ∃ j', j ≤ j' ∧ j' < j + d ∧ rdOf ByteArray.empty x (j' : Int) = u
 | 0, j => by simp [rowD]; intro _ j' h1 h2; omega
 | d + 1, j => by
  rw [rowD]
  split
  ·
   rename_i c
   rw [List.mem_cons, mem_rowD x i u d (j + 1)]
   constructor
   ·
    rintro (h | ⟨h1, j', h2, h3, h4⟩)
    ·
     exact ⟨h.symm, j, by omega, by omega, by rw [c, h]⟩
    ·
     exact ⟨h1, j', by omega, by omega, h4⟩
   ·
    rintro ⟨h1, _⟩; exact .inl h1.symm
  ·
   rename_i c
   rw [mem_rowD x i u d (j + 1)]
   constructor
   ·
    rintro ⟨h1, j', h2, h3, h4⟩; exact ⟨h1, j', by omega, by omega, h4⟩
   ·
    rintro ⟨h1, j', h2, h3, h4⟩
    refine ⟨h1, j', ?_, by omega, h4⟩
    by_cases e : j' = j
    ·
     subst e; exact absurd (h4.trans h1.symm) c
    ·
     omega
theorem mem_allD (x : List ByteArray) (u : ByteArray) : ∀ d i, u ∈ allD x d i ↔ ∃ i', i ≤ i' ∧ i' < i + d ∧ rdOf ByteArray.empty x (i' : Int) = u ∧ ∃ j', j' < i' ∧ rdOf ByteArray.empty x (j' : Int) = u
 | 0, i => by simp [allD]; intro i' h1 h2; omega
 | d + 1, i => by
  rw [allD, List.mem_append, mem_rowD, mem_allD x u d (i + 1)]
  constructor
  ·
   rintro (⟨h1, j', _, h3, h4⟩ | ⟨i', h1, h2, h3, h4⟩)
   ·
    exact ⟨i, by omega, by omega, h1, j', by omega, h4⟩
   ·
    exact ⟨i', by omega, by omega, h3, h4⟩
  ·
   rintro ⟨i', h1, h2, h3, j', h4, h5⟩
   by_cases e : i' = i
   ·
    subst e; exact .inl ⟨h3, j', by omega, by omega, h5⟩
   ·
    exact .inr ⟨i', by omega, by omega, h3, j', h4, h5⟩

theorem special_l2 (x : List ByteArray) (hx : x.length ≤ 100) (i : Nat) (hi : i < x.length) : ∀ (d k j : Nat) (acc : List ByteArray), j + d = i → acc.length + d + 1 < k → acc.length + d ≤ 1000000 →
  spec_l05Special.l2 (k + d + 1) (canon acc) x (i : Int) (j : Int) = spec_l05Special.l1 k (canon (acc ++ rowD x i d j)) x ((i + 1 : Nat) : Int) := by
 intro d
 induction d with
 | zero =>
  intro k j acc hd hk ha
  simp only [spec_l05Special.l2]
  rw [if_neg (by omega), wrap_succ (by omega)]
  simp [rowD]
 | succ d ih =>
  intro k j acc hd hk ha
  obtain ⟨q, hq⟩ : ∃ q, q = k + d + 1 := ⟨_, rfl⟩
  rw [show k + (d + 1) + 1 = q + 1 by omega]
  simp only [spec_l05Special.l2]
  rw [if_pos (by omega), if_pos (by omega), if_pos (by omega), if_pos (by omega), if_pos (by omega), wrap_succ (i := j) (by omega)]
  by_cases c : rdOf ByteArray.empty x (j : Int) = rdOf ByteArray.empty x (i : Int)
  ·
   rw [if_pos (by rw [c]), put_ev _ _ (by omega) _ (by omega)]
   simp only [Option.bind_some]
   rw [rowD, if_pos c]
   have := ih k (j + 1) (acc ++ [rdOf ByteArray.empty x (i : Int)]) (by omega) (by simp; omega) (by simp; omega)
   rw [hq, this]; simp
  ·
   rw [if_neg (by rw [ba_toList_inj]; exact c), rowD, if_neg c, hq, ih k (j + 1) acc (by omega) (by omega) (by omega)]

theorem special_l1 (x : List ByteArray) (hx : x.length ≤ 100) : ∀ (d k i : Nat) (acc : List ByteArray), i + d = x.length → acc.length ≤ i * 100 → d * 200 + 20000 < k →
  spec_l05Special.l1 k (canon acc) x (i : Int) = some (canon (acc ++ allD x d i)) := by
 intro d
 induction d with
 | zero =>
  intro k i acc hd ha hk
  obtain ⟨k, rfl⟩ : ∃ n, k = n + 1 := ⟨k - 1, by omega⟩
  simp only [spec_l05Special.l1]
  rw [if_neg (by omega)]; simp [allD]
 | succ d ih =>
  intro k i acc hd ha hk
  obtain ⟨k, rfl⟩ : ∃ n, k = n + i + 1 + 1 := ⟨k - i - 2, by omega⟩
  simp only [spec_l05Special.l1]
  have h2 := special_l2 x hx i (by omega) i k 0 acc (by omega) (by omega) (by omega)
  have hr := rowD_length x i i 0
  rw [if_pos (by omega), show (0 : Int) = ((0 : Nat) : Int) from rfl, h2, ih k (i + 1) _ (by omega) (by simp; omega) (by omega), allD]
  simp

theorem special_l0 (w : ByteArray) (m : Nat) (right : Bool) (hm : m ≤ 60) (hw : w.size ≤ 60) : ∀ (d k i : Nat) (acc : List ByteArray), i + d = (fac w (m + 1)).length → acc.length = i → d + 60000 < k →
  spec_l05Special.l0 k (m : Int) right (fac w (m + 1)) (canon []) acc (i : Int) = some (canon (allD (acc ++ ((fac w (m + 1)).drop i).map (cutF right m)) (fac w (m + 1)).length 0)) := by
 have hl := fac_length_le w (m + 1)
 intro d
 induction d with
 | zero =>
  intro k i acc hd ha hk
  obtain ⟨k, rfl⟩ : ∃ n, k = n + 1 := ⟨k - 1, by omega⟩
  simp only [spec_l05Special.l0]
  rw [if_neg (by omega), List.drop_eq_nil_of_le (by omega), List.map_nil, List.append_nil]
  have := special_l1 acc (by omega) acc.length k 0 [] (by omega) (by simp) (by omega)
  rw [show (0 : Int) = ((0 : Nat) : Int) from rfl, this, show acc.length = (fac w (m + 1)).length by omega]; rfl
 | succ d ih =>
  intro k i acc hd ha hk
  obtain ⟨k, rfl⟩ : ∃ n, k = n + 1 := ⟨k - 1, by omega⟩
  have hsz : (rdOf ByteArray.empty (fac w (m + 1)) (i : Int)).size = m + 1 := by rw [rdOf_nat _ _ _ (by omega)]; exact fac_size (List.getElem_mem _)
  have hdr : (fac w (m + 1)).drop i = rdOf ByteArray.empty (fac w (m + 1)) (i : Int) :: (fac w (m + 1)).drop (i + 1) := by rw [rdOf_nat _ _ _ (by omega), List.drop_eq_getElem_cons (by omega)]
  simp only [spec_l05Special.l0]
  rw [if_pos (by omega), hdr, List.map_cons]
  cases right
  ·
   rw [if_neg (by simp), if_pos (by omega), if_pos (by omega), if_pos (by omega), wrap_succ (by omega), ih k (i + 1) _ (by omega) (by simp [ha]) (by omega)]
   simp [cutF]
  ·
   rw [if_pos rfl, if_pos (by omega), if_pos (by omega), if_pos (by omega), if_pos (by omega), wrap_succ (by omega), ih k (i + 1) _ (by omega) (by simp [ha]) (by omega)]
   simp [cutF]

theorem spec_special_ev (w : ByteArray) (m : Nat) (right : Bool) (hw : w.size ≤ 60) (hm : m ≤ 60) : Ev (fun k => spec_l05Special.f k w (m : Int) right) (spc w m right) := by
 unfold spec_l05Special.f
 rw [show wrap64 ((m : Int) + 1) = ((m + 1 : Nat) : Int) from wrap_succ (by omega)]
 refine ev_bnd (spec_factors_ev w (m + 1) (by omega) (by omega)) ⟨(fac w (m + 1)).length + 60001, fun k hk => ?_⟩
 have h := special_l0 w m right hm hw (fac w (m + 1)).length k 0 [] (by omega) rfl (by omega)
 rw [canon_nil] at h
 show spec_l05Special.l0 k (m : Int) right (fac w (m + 1)) [] [] 0 = _
 rw [show (0 : Int) = ((0 : Nat) : Int) from rfl, h, List.drop_zero, List.nil_append]
 congr 1
 refine (canon_eq (spc_SS w m right) fun u => ?_).symm
 rw [mem_spc, mem_allD, ← dup_iff]
 have hln : ((fac w (m + 1)).map (cutF right m)).length = (fac w (m + 1)).length := List.length_map _
 constructor
 ·
  rintro ⟨i, j, hi, hj, h1, h2⟩
  exact ⟨i, by omega, by omega, by rw [rdOf_nat _ _ _ hi]; exact h2, j, hj, by rw [rdOf_nat _ _ _ (by omega)]; exact h1⟩
 ·
  rintro ⟨i, _, hi, h1, j, hj, h2⟩
  rw [rdOf_nat _ _ _ (by omega)] at h1 h2
  exact ⟨i, j, by omega, hj, h2, h1⟩

end Go.Proofs.YtgfnkdoennbipaaGreat.PF

namespace Go.Proofs.YtgfnkdoennbipaaGreat.PF
open Go.RowKit Go.Proofs.YtgfnkdoennbipaaGreatW.PrintWords Go.Proofs.YtgfnkdoennbipaaGreatW.PrintLast Go.Proofs.YtgfnkdoennbipaaGreatW.PrintMore
set_option linter.unusedVariables false
set_option linter.unusedSimpArgs false

theorem index_loop (l : List ByteArray) (x : ByteArray) (hl : l.length ≤ 4000000000000) : ∀ (d k i : Nat), i + d = l.length → d < k → ∃ r, slices_Index_string_string.l0 k l x (l.length : Int) (i : Int) = some r ∧ (r ≥ 0 ↔ x ∈ l.drop i) := by
 intro d
 induction d with
 | zero =>
  intro k i hd hk
  obtain ⟨k, rfl⟩ : ∃ n, k = n + 1 := ⟨k - 1, by omega⟩
  refine ⟨-1, ?_, ?_⟩
  ·
   simp only [slices_Index_string_string.l0]; rw [if_neg (by omega)]
  ·
   rw [List.drop_eq_nil_of_le (by omega)]; simp
 | succ d ih =>
  intro k i hd hk
  obtain ⟨k, rfl⟩ : ∃ n, k = n + 1 := ⟨k - 1, by omega⟩
  have hdr : l.drop i = rdOf ByteArray.empty l (i : Int) :: l.drop (i + 1) := by rw [rdOf_nat _ _ _ (by omega), List.drop_eq_getElem_cons (by omega)]
  by_cases c : x = rdOf ByteArray.empty l (i : Int)
  ·
   refine ⟨i, ?_, ?_⟩
   ·
    simp only [slices_Index_string_string.l0]
    rw [if_pos (by omega), if_pos (by omega), if_pos (by omega), if_pos (by rw [← c])]
   ·
    rw [hdr, List.mem_cons]; exact ⟨fun _ => .inl c, fun _ => by omega⟩
  ·
   obtain ⟨r, h1, h2⟩ := ih k (i + 1) (by omega) (by omega)
   refine ⟨r, ?_, ?_⟩
   ·
    simp only [slices_Index_string_string.l0]
    rw [if_pos (by omega), if_pos (by omega), if_pos (by omega), if_neg (by rw [ba_toList_inj]; exact c), wrap_succ (by omega), h1]
   ·
    rw [h2, hdr, List.mem_cons]; exact ⟨.inr, fun h => h.elim (fun e => absurd e c) id⟩

theorem contains_f (l : List ByteArray) (x : ByteArray) (hl : l.length ≤ 4000000000000) (k : Nat) (hk : l.length < k) : slices_Contains_string_string.f k l x = some (decide (x ∈ l)) := by
 obtain ⟨r, h1, h2⟩ := index_loop l x hl l.length k 0 (by omega) (by omega)
 unfold slices_Contains_string_string.f slices_Index_string_string.f
 rw [show (0 : Int) = ((0 : Nat) : Int) from rfl, h1]
 simp only [Option.bind_some, Option.some.injEq, decide_eq_decide]
 rw [List.drop_zero] at h2; exact h2

end Go.Proofs.YtgfnkdoennbipaaGreat.PF

namespace Go.Proofs.YtgfnkdoennbipaaGreat.PF
open Go.RowKit Go.Proofs.YtgfnkdoennbipaaGreatW.PrintWords Go.Proofs.YtgfnkdoennbipaaGreatW.PrintLast Go.Proofs.YtgfnkdoennbipaaGreatW.PrintMore
set_option linter.unusedVariables false
set_option linter.unusedSimpArgs false
set_option maxRecDepth 20000

/-- The code of a word and a length. -/
def codL (w : ByteArray) (m : Int) : Int := codeW (inR m 0 60) [w]
theorem codL_zero {w : ByteArray} {m : Int} (h : codL w m = 0) : isW w = true ∧ ∃ n : Nat, m = n ∧ n ≤ 60 := by
 obtain ⟨n, hn, _, h2⟩ := range_nat h (by omega)
 exact ⟨by have := (codeW_zero.1 h).1; simpa using this, n, hn, by omega⟩
theorem right_ev (w : ByteArray) (m : Int) (hw : w.size ≤ 100000) : Ev (fun k => spec_RightSpecial.f k w m) (if codeW (inR m 0 60) [w] = 0 then (spc w m.toNat true, 0) else ([], codeW (inR m 0 60) [w])) ∧ Ev (fun k => impl_RightSpecial.f k w m) (if codeW (inR m 0 60) [w] = 0 then (spc w m.toNat true, 0) else ([], codeW (inR m 0 60) [w])) := by
 unfold spec_RightSpecial.f impl_RightSpecial.f impl_RightSpecial_1.f
 simp only [isLength_f, Option.bind_some, wordCode_f]
 by_cases h0 : codeW (inR m 0 60) [w] = 0
 ·
  obtain ⟨n, rfl, hn0, hn⟩ := range_nat h0 (by omega)
  have hs := sz_word h0
  have hl := spc_length w n true
  rw [if_pos h0, Int.toNat_natCast]
  refine ⟨ev_bnd (l05Code_ev w _ (by omega)) ?_, ?_⟩
  ·
   simp only [h0, if_true]
   exact ev_bnd (spec_special_ev w n true hs (by omega)) (ev_of rfl)
  ·
   simp only [h0, if_true]
   exact ev_bnd (impl_special_ev w n true (fun _ => strings_HasPrefix.f) hs (by omega) (fun _ => prefix_cut (by omega))) (ev_of rfl)
 ·
  rw [if_neg h0]
  refine ⟨ev_bnd (l05Code_ev w _ (by omega)) ?_, ?_⟩
  ·
   simp only [h0, if_false]; exact ev_of rfl
  ·
   simp only [h0, if_false]; exact ev_of rfl
theorem left_ev (w : ByteArray) (m : Int) (hw : w.size ≤ 100000) : Ev (fun k => spec_LeftSpecial.f k w m) (if codeW (inR m 0 60) [w] = 0 then (spc w m.toNat false, 0) else ([], codeW (inR m 0 60) [w])) ∧ Ev (fun k => impl_LeftSpecial.f k w m) (if codeW (inR m 0 60) [w] = 0 then (spc w m.toNat false, 0) else ([], codeW (inR m 0 60) [w])) := by
 unfold spec_LeftSpecial.f impl_LeftSpecial.f impl_LeftSpecial_1.f
 simp only [isLength_f, Option.bind_some, wordCode_f]
 by_cases h0 : codeW (inR m 0 60) [w] = 0
 ·
  obtain ⟨n, rfl, hn0, hn⟩ := range_nat h0 (by omega)
  have hs := sz_word h0
  have hl := spc_length w n false
  rw [if_pos h0, Int.toNat_natCast]
  refine ⟨ev_bnd (l05Code_ev w _ (by omega)) ?_, ?_⟩
  ·
   simp only [h0, if_true]
   exact ev_bnd (spec_special_ev w n false hs (by omega)) (ev_of rfl)
  ·
   simp only [h0, if_true]
   exact ev_bnd (impl_special_ev w n false (fun _ => strings_HasSuffix.f) hs (by omega) (fun _ => suffix_cut (by omega))) (ev_of rfl)
 ·
  rw [if_neg h0]
  refine ⟨ev_bnd (l05Code_ev w _ (by omega)) ?_, ?_⟩
  ·
   simp only [h0, if_false]; exact ev_of rfl
  ·
   simp only [h0, if_false]; exact ev_of rfl
theorem bi_l1 (rs ls : List ByteArray) (hr : rs.length ≤ 1000000) (hl : ls.length ≤ 1000000) (i : Nat) (hi : i < rs.length) (x : ByteArray) (hx : rs[i] = x) : ∀ (d k j : Nat) (acc : List ByteArray), j + d = ls.length → acc.length + d ≤ 8000000000000 →
  spec_Bispecial.l1 (k + d + 1) rs ls acc (i : Int) (j : Int) = spec_Bispecial.l0 k rs ls (acc ++ (ls.drop j).filter fun y => decide (x = y)) ((i + 1 : Nat) : Int) := by
 intro d
 induction d with
 | zero =>
  intro k j acc hd ha
  simp only [spec_Bispecial.l1]
  rw [if_neg (by omega), wrap_succ (by omega), List.drop_eq_nil_of_le (by omega)]
  simp
 | succ d ih =>
  intro k j acc hd ha
  obtain ⟨q, hq⟩ : ∃ q, q = k + d + 1 := ⟨_, rfl⟩
  rw [show k + (d + 1) + 1 = q + 1 by omega]
  simp only [spec_Bispecial.l1]
  rw [if_pos (by omega), if_pos (by omega), if_pos (by omega), if_pos (by omega), rdOf_nat _ rs i hi, hx, rdOf_nat _ ls j (by omega), wrap_succ (i := j) (by omega), List.drop_eq_getElem_cons (l := ls) (i := j) (by omega), List.filter_cons]
  subst hq
  by_cases c : x = ls[j]
  ·
   rw [if_pos (by rw [c]), if_pos (by omega), if_pos (by simp [c]), ih k (j + 1) _ (by omega) (by simp; omega), c]
   simp
  ·
   rw [if_neg (by rw [ba_toList_inj]; exact c), if_neg (by simp [c]), ih k (j + 1) _ (by omega) (by omega)]
theorem filter_one : ∀ (ls : List ByteArray) (x : ByteArray), ls.Nodup → (ls.filter fun y => decide (x = y)) = if x ∈ ls then [x] else []
 | [], x, _ => by simp
 | y :: ls, x, h => by
  obtain ⟨h1, h2⟩ := List.nodup_cons.1 h
  rw [List.filter_cons, filter_one ls x h2]
  by_cases e : x = y
  ·
   subst e; simp [h1]
  ·
   simp [e]
theorem bi_l0 (rs ls : List ByteArray) (hr : rs.length ≤ 1000000) (hl : ls.length ≤ 1000000) (hnd : ls.Nodup) : ∀ (d k i : Nat) (acc : List ByteArray), i + d = rs.length → acc.length ≤ i → d * (ls.length + 3) < k →
  spec_Bispecial.l0 k rs ls acc (i : Int) = some (acc ++ (rs.drop i).filter (fun x => decide (x ∈ ls)), 0) := by
 intro d
 induction d with
 | zero =>
  intro k i acc hd ha hk
  obtain ⟨k, rfl⟩ : ∃ n, k = n + 1 := ⟨k - 1, by omega⟩
  simp only [spec_Bispecial.l0]
  rw [if_neg (by omega), List.drop_eq_nil_of_le (by omega)]; simp
 | succ d ih =>
  intro k i acc hd ha hk
  rw [Nat.succ_mul] at hk
  obtain ⟨k, rfl⟩ : ∃ n, k = n + ls.length + 1 + 1 := ⟨k - ls.length - 2, by omega⟩
  have h1 := bi_l1 rs ls hr hl i (by omega) _ rfl ls.length k 0 acc (by omega) (by omega)
  rw [List.drop_zero, filter_one ls _ hnd] at h1
  simp only [spec_Bispecial.l0]
  rw [if_pos (by omega), show (0 : Int) = ((0 : Nat) : Int) from rfl, h1, List.drop_eq_getElem_cons (l := rs) (i := i) (by omega), List.filter_cons]
  by_cases c : rs[i] ∈ ls
  ·
   rw [if_pos c, if_pos (by simp [c]), ih k (i + 1) _ (by omega) (by simp; omega) (by omega)]; simp
  ·
   rw [if_neg c, if_neg (by simp [c]), List.append_nil, ih k (i + 1) _ (by omega) (by omega) (by omega)]; rfl
/-- The factors that are special on both sides. -/
def bis (w : ByteArray) (n : Nat) : List ByteArray := (spc w n true).filter fun x => decide (x ∈ spc w n false)
theorem bispecial_ev (w : ByteArray) (m : Int) (hw : w.size ≤ 100000) : Ev (fun k => spec_Bispecial.f k w m) (if codeW (inR m 0 60) [w] = 0 then (bis w m.toNat, 0) else ([], codeW (inR m 0 60) [w])) ∧ Ev (fun k => impl_Bispecial.f k w m) (if codeW (inR m 0 60) [w] = 0 then (bis w m.toNat, 0) else ([], codeW (inR m 0 60) [w])) := by
 unfold spec_Bispecial.f impl_Bispecial.f
 have hR := (right_ev w m hw).2
 have hL := (left_ev w m hw).2
 by_cases h0 : codeW (inR m 0 60) [w] = 0
 ·
  simp only [h0, if_true] at hR hL
  obtain ⟨n, rfl, hn0, hn⟩ := range_nat h0 (by omega)
  rw [Int.toNat_natCast] at hR hL
  have hs := sz_word h0
  have hl := spc_length w n true
  have hl2 := spc_length w n false
  have hf := List.length_filter_le (fun x => decide (x ∈ spc w n false)) (spc w n true)
  rw [if_pos h0, Int.toNat_natCast]
  refine ⟨ev_bnd (l05Code_ev w _ (by omega)) ?_, ?_⟩
  ·
   simp only [h0, if_true]
   refine ev_bnd (spec_special_ev w n true hs (by omega)) (ev_bnd (spec_special_ev w n false hs (by omega)) ⟨(spc w n true).length * ((spc w n false).length + 3) + 1, fun k hk => ?_⟩)
   have h := bi_l0 (spc w n true) (spc w n false) (by omega) (by omega) (SS_nodup (spc_SS w n false)) (spc w n true).length k 0 [] (by omega) (by simp) (by omega)
   exact h
  ·
   refine ev_bnd hR ?_
   simp only [if_true]
   refine ev_bnd hL (ev_bnd (a := (spc w n true).filter (fun x => decide (x ∈ spc w n false))) ⟨(spc w n false).length + 1, fun k hk => ?_⟩ (ev_of rfl))
   show filterP _ _ = _
   rw [filterP_some (q := fun x => !decide (x ∈ spc w n false)) _ (fun x hx => by
    show impl_Bispecial_1.f k x (spc w n false) = _
    unfold impl_Bispecial_1.f
    rw [contains_f _ x (by omega) k (by omega)]; rfl)]
   simp only [Bool.not_not]
 ·
  simp only [h0, if_false] at hR hL
  rw [if_neg h0]
  refine ⟨ev_bnd (l05Code_ev w _ (by omega)) ?_, ev_bnd hR ?_⟩
  ·
   simp only [h0, if_false]; exact ev_of rfl
  ·
   simp only [h0, if_false]; exact ev_of rfl
theorem cycles_ev (w : ByteArray) (m : Int) (hw : w.size ≤ 100000) : ∃ r : Int × Int, (codeW (inR m 0 60) [w] = 0 → ∀ n : Nat, m = n → r.2 = 0 ∧ (0 < (fac w n).length → r.1 = ((fac w (n + 1)).length : Int) - ((fac w n).length : Int) + 1)) ∧ Ev (fun k => spec_CountCycles.f k w m) r ∧ Ev (fun k => impl_CountCycles.f k w m) r := by
 unfold spec_CountCycles.f impl_CountCycles.f impl_CountCycles_1.f
 simp only [isLength_f, Option.bind_some, wordCode_f]
 by_cases h0 : codeW (inR m 0 60) [w] = 0
 ·
  obtain ⟨n, rfl, hn0, hn⟩ := range_nat h0 (by omega)
  have hs := sz_word h0
  by_cases h1 : ((fac w n).length : Int) = 0
  ·
   refine ⟨(0, 0), fun _ n' hn' => ⟨rfl, fun h => absurd h (by have e : n' = n := (by omega); rw [e]; omega)⟩, ev_bnd (l05Code_ev w _ (by omega)) ?_, ?_⟩
   ·
    simp only [h0, if_true]
    refine ev_bnd (spec_factors_ev w n (by omega) (by omega)) ?_
    simp only [h1, if_true]; exact ev_of rfl
   ·
    simp only [h0, if_true]
    refine ev_bnd (impl_factors_ev w n (by omega) (by omega)) ?_
    simp only [h1, if_true]; exact ev_of rfl
  ·
   have hf1 := fac_length_le w n
   have hf2 := fac_length_le w (n + 1)
   refine ⟨(wrap64 ((wrap64 (((fac w (n + 1)).length : Int) - ((fac w n).length : Int))) + 1), 0), fun _ n' hn' => ⟨rfl, fun _ => ?_⟩, ev_bnd (l05Code_ev w _ (by omega)) ?_, ?_⟩
   ·
    obtain rfl : n' = n := by omega
    show wrap64 _ = _
    rw [wrap_id (x := ((fac w (n' + 1)).length : Int) - _) (by omega) (by omega), wrap_id (by omega) (by omega)]
   ·
    simp only [h0, if_true]
    refine ev_bnd (spec_factors_ev w n (by omega) (by omega)) ?_
    simp only [h1, if_false, wrap_succ (i := n) (by omega)]
    exact ev_bnd (spec_factors_ev w (n + 1) (by omega) (by omega)) (ev_of rfl)
   ·
    simp only [h0, if_true]
    refine ev_bnd (impl_factors_ev w n (by omega) (by omega)) ?_
    simp only [h1, if_false, wrap_succ (i := n) (by omega)]
    exact ev_bnd (impl_factors_ev w (n + 1) (by omega) (by omega)) (ev_of rfl)
 ·
  refine ⟨(0, codeW (inR m 0 60) [w]), fun h => absurd h h0, ev_bnd (l05Code_ev w _ (by omega)) ?_, ?_⟩
  ·
   simp only [h0, if_false]; exact ev_of rfl
  ·
   simp only [h0, if_false]; exact ev_of rfl
theorem complexityOf_ev (w : ByteArray) (hw : w.size ≤ 100000) : Ev (fun k => spec_ComplexityOf.f k w) (if isW w = true then (numF w (w.size + 1) 0, 0) else ([], 1)) ∧ Ev (fun k => impl_ComplexityOf.f k w) (if isW w = true then (numF w (w.size + 1) 0, 0) else ([], 1)) := by
 unfold spec_ComplexityOf.f impl_ComplexityOf.f impl_always.f
 simp only [wordCode_f]
 by_cases h0 : isW w = true
 ·
  have hs := isW_size h0
  rw [if_pos h0]
  refine ⟨ev_bnd (l01Is_ev w (by omega)) ?_, ?_⟩
  ·
   simp only [h0, if_true]
   exact ev_bnd (numbers_ev w hs) (ev_of rfl)
  ·
   simp only [codeW, List.all_cons, List.all_nil, h0, Bool.and_true, if_true, Option.bind_some]
   exact ev_bnd (complexity_ev w hs) (ev_of rfl)
 ·
  rw [if_neg h0]
  refine ⟨ev_bnd (l01Is_ev w (by omega)) ?_, ?_⟩
  ·
   simp only [h0, if_false]; exact ev_of rfl
  ·
   simp [codeW, h0]; exact ev_of rfl
theorem cf_sum (l : List Int) (hx : ∀ x ∈ l, 0 ≤ x ∧ x ≤ 1000) (hl : l.length ≤ 1000) : ∀ (d i : Nat) (s : Int), i + d = l.length → 0 ≤ s → s ≤ 1000 * i → ∃ r, r = s + (l.drop i).sum ∧ (∀ k, d < k → spec_CountFactors.l0 k l s (i : Int) = some (r, 0)) ∧ (∀ k, d < k → impl_CountFactors.l0 k s l (l.length : Int) (i : Int) = some (r, 0)) := by
 intro d
 induction d with
 | zero =>
  intro i s hd s0 s1
  refine ⟨s, by rw [List.drop_eq_nil_of_le (by omega)]; simp, fun k hk => ?_, fun k hk => ?_⟩
  ·
   obtain ⟨k, rfl⟩ : ∃ n, k = n + 1 := ⟨k - 1, by omega⟩
   simp only [spec_CountFactors.l0]; rw [if_neg (by omega)]
  ·
   obtain ⟨k, rfl⟩ : ∃ n, k = n + 1 := ⟨k - 1, by omega⟩
   simp only [impl_CountFactors.l0]; rw [if_neg (by omega)]
 | succ d ih =>
  intro i s hd s0 s1
  have e1 : rd l (i : Int) = l[i] := rd_nat _ _ (by omega)
  have b1 := hx l[i] (List.getElem_mem _)
  have e2 : wrap64 (s + rd l (i : Int)) = s + l[i] := by rw [e1, wrap_id (by omega) (by omega)]
  obtain ⟨r, h0, h1, h2⟩ := ih (i + 1) (wrap64 (s + rd l (i : Int))) (by omega) (by rw [e2]; omega) (by rw [e2]; omega)
  refine ⟨r, by rw [h0, e2, List.drop_eq_getElem_cons (l := l) (i := i) (by omega), List.sum_cons]; omega, fun k hk => ?_, fun k hk => ?_⟩
  ·
   obtain ⟨k, rfl⟩ : ∃ n, k = n + 1 := ⟨k - 1, by omega⟩
   simp only [spec_CountFactors.l0]; rw [if_pos (by omega), if_pos (by omega), wrap_succ (by omega)]; exact h1 k (by omega)
  ·
   obtain ⟨k, rfl⟩ : ∃ n, k = n + 1 := ⟨k - 1, by omega⟩
   simp only [impl_CountFactors.l0]; rw [if_pos (by omega), if_pos (by omega), if_pos (by omega), wrap_succ (by omega)]; exact h2 k (by omega)
theorem numF_get (w : ByteArray) : ∀ d i j, (h : j < d) → (numF w d i)[j]'(by rw [numF_length]; exact h) = ((fac w (i + j)).length : Int)
 | d + 1, i, 0, h => by simp [numF]
 | d + 1, i, j + 1, h => by
  have := numF_get w d (i + 1) j (by omega)
  simp only [numF, List.getElem_cons_succ, this]
  rw [show i + 1 + j = i + (j + 1) by omega]
theorem numF_mem (w : ByteArray) (hw : w.size ≤ 60) : ∀ d i, ∀ x ∈ numF w d i, 0 ≤ x ∧ x ≤ 1000
 | 0, i, x, h => by cases h
 | d + 1, i, x, h => by
  rw [numF] at h
  rcases List.mem_cons.1 h with rfl | h
  ·
   have := fac_length_le w i; omega
  ·
   exact numF_mem w hw d (i + 1) x h
theorem countFactors_ev (w : ByteArray) (hw : w.size ≤ 100000) : ∃ r : Int × Int, (isW w = true → r = ((numF w (w.size + 1) 0).sum, 0)) ∧ Ev (fun k => spec_CountFactors.f k w) r ∧ Ev (fun k => impl_CountFactors.f k w) r := by
 unfold spec_CountFactors.f impl_CountFactors.f impl_always.f
 simp only [wordCode_f]
 by_cases h0 : isW w = true
 ·
  have hs := isW_size h0
  have hl := numF_length w (w.size + 1) 0
  obtain ⟨r, h3, h1, h2⟩ := cf_sum (numF w (w.size + 1) 0) (numF_mem w hs _ _) (by omega) (w.size + 1) 0 0 (by omega) (by omega) (by omega)
  refine ⟨(r, 0), fun _ => by rw [h3]; simp, ev_bnd (l01Is_ev w (by omega)) ?_, ?_⟩
  ·
   simp only [h0, if_true]
   exact ev_bnd (numbers_ev w hs) ⟨w.size + 2, fun k hk => h1 k (by omega)⟩
  ·
   simp only [codeW, List.all_cons, List.all_nil, h0, Bool.and_true, if_true, Option.bind_some]
   exact ev_bnd (complexity_ev w hs) ⟨w.size + 2, fun k hk => h2 k (by omega)⟩
 ·
  refine ⟨(0, 1), fun h => absurd h h0, ev_bnd (l01Is_ev w (by omega)) ?_, ?_⟩
  ·
   simp only [h0, if_false]; exact ev_of rfl
  ·
   simp [codeW, h0]; exact ev_of rfl
theorem he_loop (l l' : List ByteArray) (hl : l.length ≤ 4000000000000) (hle : l.length = l'.length) : ∀ (d i : Nat), i + d = l.length → ∃ b : Bool, (∀ k, d < k → spec_HaveEqualFactors.l0 k l l' (i : Int) = some (b, 0)) ∧ (∀ k, d < k → slices_Equal_string_string.l0 k l l' (l.length : Int) (i : Int) = some b) := by
 intro d
 induction d with
 | zero =>
  intro i hd
  refine ⟨true, fun k hk => ?_, fun k hk => ?_⟩
  ·
   obtain ⟨k, rfl⟩ : ∃ n, k = n + 1 := ⟨k - 1, by omega⟩
   simp only [spec_HaveEqualFactors.l0]; rw [if_neg (by omega)]
  ·
   obtain ⟨k, rfl⟩ : ∃ n, k = n + 1 := ⟨k - 1, by omega⟩
   simp only [slices_Equal_string_string.l0]; rw [if_neg (by omega)]
 | succ d ih =>
  intro i hd
  by_cases c : (rdOf ByteArray.empty l (i : Int)).toList = (rdOf ByteArray.empty l' (i : Int)).toList
  ·
   obtain ⟨b, h1, h2⟩ := ih (i + 1) (by omega)
   refine ⟨b, fun k hk => ?_, fun k hk => ?_⟩
   ·
    obtain ⟨k, rfl⟩ : ∃ n, k = n + 1 := ⟨k - 1, by omega⟩
    simp only [spec_HaveEqualFactors.l0]; rw [if_pos (by omega), if_pos (by omega), if_pos (by omega), if_pos c, wrap_succ (by omega)]; exact h1 k (by omega)
   ·
    obtain ⟨k, rfl⟩ : ∃ n, k = n + 1 := ⟨k - 1, by omega⟩
    simp only [slices_Equal_string_string.l0]; rw [if_pos (by omega), if_pos (by omega), if_pos (by omega), if_pos (by omega), if_pos c, wrap_succ (by omega)]; exact h2 k (by omega)
  ·
   refine ⟨false, fun k hk => ?_, fun k hk => ?_⟩
   ·
    obtain ⟨k, rfl⟩ : ∃ n, k = n + 1 := ⟨k - 1, by omega⟩
    simp only [spec_HaveEqualFactors.l0]; rw [if_pos (by omega), if_pos (by omega), if_pos (by omega), if_neg c]
   ·
    obtain ⟨k, rfl⟩ : ∃ n, k = n + 1 := ⟨k - 1, by omega⟩
    simp only [slices_Equal_string_string.l0]; rw [if_pos (by omega), if_pos (by omega), if_pos (by omega), if_pos (by omega), if_neg c]
theorem haveEqual_ev (w v : ByteArray) (m : Int) (hw : w.size ≤ 100000) (hv : v.size ≤ 100000) : ∃ r : Bool × Int, Ev (fun k => spec_HaveEqualFactors.f k w v m) r ∧ Ev (fun k => impl_HaveEqualFactors.f k w v m) r := by
 unfold spec_HaveEqualFactors.f impl_HaveEqualFactors.f impl_HaveEqualFactors_1.f
 simp only [isLength_f, Option.bind_some, wordCode_f]
 by_cases h1 : isW w = true
 case neg =>
  refine ⟨(false, 1), ev_bnd (l01Is_ev w (by omega)) ?_, ?_⟩
  ·
   simp only [h1, if_false]
   refine ev_suc ?_
   simp only [spec_HaveEqualFactors.j0, if_true]; exact ev_of rfl
  ·
   simp [codeW, h1]; exact ev_of rfl
 by_cases h2 : isW v = true
 case neg =>
  refine ⟨(false, 1), ev_bnd (l01Is_ev w (by omega)) ?_, ?_⟩
  ·
   simp only [h1, if_true]
   refine ev_bnd (l01Is_ev v (by omega)) (ev_suc ?_)
   simp only [spec_HaveEqualFactors.j0, h2, Bool.not_false, if_true]; exact ev_of rfl
  ·
   simp [codeW, h1, h2]; exact ev_of rfl
 by_cases h3 : inR m 0 60 = true
 case neg =>
  refine ⟨(false, 2), ev_bnd (l01Is_ev w (by omega)) ?_, ?_⟩
  ·
   simp only [h1, if_true]
   refine ev_bnd (l01Is_ev v (by omega)) (ev_suc ?_)
   simp [spec_HaveEqualFactors.j0, h2, l01In_f, h3]; exact ev_of rfl
  ·
   simp [codeW, h1, h2, h3]; exact ev_of rfl
 have h0 : codeW (inR m 0 60) [w, v] = 0 := codeW_zero.2 ⟨by simp [h1, h2], h3⟩
 obtain ⟨n, rfl, hn0, hn⟩ := range_nat h0 (by omega)
 have hs := isW_size h1
 have hs2 := isW_size h2
 have hl1 := fac_length_le w n
 have hl2 := fac_length_le v n
 have hspec : ∀ b : Bool, Ev (fun k => if ((fac w n).length : Int) = ((fac v n).length : Int) then spec_HaveEqualFactors.l0 k (fac w n) (fac v n) 0 else some (false, 0)) (b, 0) → Ev (fun k => (spec_l01Is.f k w).bind fun t309 => if t309 = true then (spec_l01Is.f k v).bind fun t310 => spec_HaveEqualFactors.j0 k w v (n : Int) (!t310) else spec_HaveEqualFactors.j0 k w v (n : Int) true) (b, 0) := by
  intro b hb
  refine ev_bnd (l01Is_ev w (by omega)) ?_
  simp only [h1, if_true]
  refine ev_bnd (l01Is_ev v (by omega)) (ev_suc ?_)
  simp only [spec_HaveEqualFactors.j0, h2, Bool.not_true, Bool.false_eq_true, if_false, l01In_f, h3, if_true, Option.bind_some]
  exact ev_bnd (spec_factors_ev w n (by omega) (by omega)) (ev_bnd (spec_factors_ev v n (by omega) (by omega)) hb)
 have himpl : ∀ b : Bool, Ev (fun k => slices_Equal_string_string.f k (fac w n) (fac v n)) b → Ev (fun k => if codeW (inR (n : Int) 0 60) [w, v] = 0 then (impl_factors.f k w (n : Int)).bind fun t329 => (impl_factors.f k v (n : Int)).bind fun t332 => (slices_Equal_string_string.f k t329 t332).bind fun t335 => some (t335, (0 : Int)) else some (false, codeW (inR (n : Int) 0 60) [w, v])) (b, 0) := by
  intro b hb
  simp only [h0, if_true]
  exact ev_bnd (impl_factors_ev w n (by omega) (by omega)) (ev_bnd (impl_factors_ev v n (by omega) (by omega)) (ev_bnd hb (ev_of rfl)))
 by_cases he : (fac w n).length = (fac v n).length
 ·
  obtain ⟨b, g1, g2⟩ := he_loop (fac w n) (fac v n) (by omega) he (fac w n).length 0 (by omega)
  refine ⟨(b, 0), hspec b ?_, himpl b ?_⟩
  ·
   simp only [he, if_true]; exact ⟨(fac w n).length + 1, fun k hk => g1 k (by omega)⟩
  ·
   unfold slices_Equal_string_string.f
   simp only [he, if_true]
   rw [he] at g2
   exact ⟨(fac v n).length + 1, fun k hk => g2 k (by omega)⟩
 ·
  have he' : ¬ ((fac w n).length : Int) = ((fac v n).length : Int) := by omega
  refine ⟨(false, 0), hspec false ?_, himpl false ?_⟩
  ·
   simp only [he', if_false]; exact ev_of rfl
  ·
   unfold slices_Equal_string_string.f
   simp only [he', if_false]; exact ev_of rfl

end Go.Proofs.YtgfnkdoennbipaaGreat.PF

namespace Go.Proofs.YtgfnkdoennbipaaGreat.PF
open Go.RowKit Go.Proofs.YtgfnkdoennbipaaGreatW.PrintWords Go.Proofs.YtgfnkdoennbipaaGreatW.PrintLast Go.Proofs.YtgfnkdoennbipaaGreatW.PrintMore
set_option linter.unusedVariables false
set_option linter.unusedSimpArgs false
set_option maxRecDepth 20000

theorem numberE_ev (l : List ByteArray) (hl : l.length ≤ 1000000) (hS : SS l) (p : Nat) (hp : p < l.length) : ∀ (d k i : Nat), i + d = p → d < k → spec_l05Number.l0 k l l[p] (i : Int) = some (p : Int) := by
 intro d
 induction d with
 | zero =>
  intro k i hi hk
  obtain ⟨k, rfl⟩ : ∃ m, k = m + 1 := ⟨k - 1, by omega⟩
  have e : i = p := by omega
  subst e
  simp only [spec_l05Number.l0]
  rw [if_pos (by omega), if_pos (by omega), rdOf_nat _ _ i hp, if_pos rfl]
 | succ d ih =>
  intro k i hi hk
  obtain ⟨k, rfl⟩ : ∃ m, k = m + 1 := ⟨k - 1, by omega⟩
  have hip : i < l.length := by omega
  have hne : ¬ l[i].toList = l[p].toList := by
   have h1 : l[i].toList < l[p].toList := List.pairwise_iff_getElem.1 hS i p hip hp (by omega)
   intro e; rw [e] at h1; exact absurd h1 (List.lt_irrefl _)
  simp only [spec_l05Number.l0]
  rw [if_pos (by omega), if_pos (by omega), rdOf_nat _ _ i hip, if_neg hne, wrap_succ (by omega)]
  exact ih k (i + 1) (by omega) (by omega)
theorem less_f (a b : ByteArray) : cmp_Less_string.f a b = some (Op.bytesLess a.toList b.toList) := by
 simp [cmp_Less_string.f, cmp_isNaN_string.f]
theorem half {lo hi : Nat} (h : lo + hi ≤ 4000000) : wrap64 ((IntKind.u64.wrap (wrap64 ((lo : Int) + (hi : Int)))) / 2) = (((lo + hi) / 2 : Nat) : Int) := by
 rw [show wrap64 ((lo : Int) + (hi : Int)) = ((lo + hi : Nat) : Int) from wrap_nat (n := lo + hi) (by omega) (by omega)]
 have e : IntKind.u64.wrap (((lo + hi : Nat) : Int)) = ((lo + hi : Nat) : Int) := by
  simp only [IntKind.wrap]
  first | omega | (simp [IntKind.bits, IntKind.signed]; omega)
 rw [e, wrap_nat (n := (lo + hi) / 2) (by omega) (by omega)]
theorem search_ev (l : List ByteArray) (hl : l.length ≤ 1000000) (hS : SS l) (p : Nat) (hp : p < l.length) : ∀ (d k lo hi : Nat), hi - lo ≤ d → lo ≤ p → p ≤ hi → hi ≤ l.length → d < k →
  slices_BinarySearch_string_string.l0 k l l[p] (l.length : Int) (lo : Int) (hi : Int) = some ((p : Int), true) := by
 intro d
 induction d with
 | zero =>
  intro k lo hi hd h1 h2 h3 hk
  obtain ⟨k, rfl⟩ : ∃ m, k = m + 1 := ⟨k - 1, by omega⟩
  have e1 : lo = p := by omega
  have e2 : hi = p := by omega
  subst e1; subst e2
  simp only [slices_BinarySearch_string_string.l0]
  rw [if_neg (by omega), if_pos (by omega), if_pos (by omega), if_pos (by omega), rdOf_nat _ _ hi hp, if_pos rfl]
 | succ d ih =>
  intro k lo hi hd h1 h2 h3 hk
  by_cases hlh : lo < hi
  ·
   obtain ⟨k, rfl⟩ : ∃ m, k = m + 1 := ⟨k - 1, by omega⟩
   simp only [slices_BinarySearch_string_string.l0, half (show lo + hi ≤ 4000000 by omega)]
   have hm : (lo + hi) / 2 < l.length := by omega
   have hm1 : lo ≤ (lo + hi) / 2 := by omega
   have hm2 : (lo + hi) / 2 < hi := by omega
   generalize (lo + hi) / 2 = q at hm hm1 hm2
   rw [if_pos (by omega), if_pos (by omega), if_pos (by omega), rdOf_nat _ _ q hm, less_f, Option.bind_some]
   by_cases hc : Op.bytesLess l[q].toList l[p].toList = true
   ·
    rw [if_pos hc, wrap_succ (by omega)]
    have hlt := (less_iff _ _).1 hc
    have hqp : q < p := by
     rcases Nat.lt_or_ge q p with h | h
     ·
      exact h
     ·
      rcases Nat.lt_or_eq_of_le h with h | h
      ·
       have := List.pairwise_iff_getElem.1 hS p q hp hm h
       exact absurd (List.lt_trans this hlt) (List.lt_irrefl _)
      ·
       subst h; exact absurd hlt (List.lt_irrefl _)
    exact ih k (q + 1) hi (by omega) (by omega) h2 h3 (by omega)
   ·
    rw [if_neg hc]
    have hqp : p ≤ q := by
     rcases Nat.lt_or_ge q p with h | h
     ·
      exact absurd ((less_iff _ _).2 (List.pairwise_iff_getElem.1 hS q p hm hp h)) hc
     ·
      exact h
    exact ih k lo q (by omega) h1 hqp (by omega) (by omega)
  ·
   have := ih k lo hi (by omega) h1 h2 h3 (by omega)
   exact this
/-- The place of a word in a list. -/
def plcOf (l : List ByteArray) (x : ByteArray) : Nat := l.findIdx fun y => decide (y.toList = x.toList)
theorem plcOf_spec (l : List ByteArray) (x : ByteArray) (h : x ∈ l) : ∃ hp : plcOf l x < l.length, l[plcOf l x] = x := by
 have hp : plcOf l x < l.length := List.findIdx_lt_length_of_exists ⟨x, h, by simp⟩
 refine ⟨hp, ?_⟩
 have := List.findIdx_getElem (w := hp)
 exact ba_inj.1 (of_decide_eq_true this)
theorem numberE_f (l : List ByteArray) (hl : l.length ≤ 1000000) (hS : SS l) (x : ByteArray) (h : x ∈ l) (k : Nat) (hk : l.length < k) : spec_l05Number.f k l x = some (plcOf l x : Int) := by
 obtain ⟨hp, e⟩ := plcOf_spec l x h
 have := numberE_ev l hl hS (plcOf l x) hp (plcOf l x) k 0 (by omega) (by omega)
 rw [e] at this
 exact this
theorem search_f (l : List ByteArray) (hl : l.length ≤ 1000000) (hS : SS l) (x : ByteArray) (h : x ∈ l) (k : Nat) (hk : l.length < k) : slices_BinarySearch_string_string.f k l x = some ((plcOf l x : Int), true) := by
 obtain ⟨hp, e⟩ := plcOf_spec l x h
 have := search_ev l hl hS (plcOf l x) hp l.length k 0 l.length (by omega) (by omega) (by omega) (by omega) (by omega)
 rw [e] at this
 exact this
def edgeOf (l : List ByteArray) (m : Nat) (u : ByteArray) : List Int := [(plcOf l (u.extract 0 m) : Int), (plcOf l (u.extract 1 u.size) : Int)]
theorem fac_succ (w : ByteArray) (m : Nat) (u : ByteArray) (h : u ∈ fac w (m + 1)) : u.size = m + 1 ∧ u.extract 0 m ∈ fac w m ∧ u.extract 1 u.size ∈ fac w m := by
 obtain ⟨j, hj, rfl⟩ := (mem_fac w (m + 1) u).1 h
 have hs : (w.extract j (j + (m + 1))).size = m + 1 := by rw [extract_size w (by omega) (by omega)]; omega
 refine ⟨hs, (mem_fac w m _).2 ⟨j, by omega, ?_⟩, (mem_fac w m _).2 ⟨j + 1, by omega, ?_⟩⟩
 ·
  rw [ByteArray.extract_extract]; congr 1; omega
 ·
  rw [hs, ByteArray.extract_extract]; congr 1; omega
theorem spec_edges (w : ByteArray) (hw : w.size ≤ 1000) (m : Nat) (hm : m ≤ 100) : ∀ (d k i : Nat) (acc : List (List Int)), i + d = (fac w (m + 1)).length → acc.length = i → d + 2000 < k →
  spec_FactorEdges.l0 k (m : Int) (fac w m) (fac w (m + 1)) acc (i : Int) = some (acc ++ ((fac w (m + 1)).drop i).map (edgeOf (fac w m) m), 0) := by
 have hl1 := fac_length_le w m
 have hl2 := fac_length_le w (m + 1)
 intro d
 induction d with
 | zero =>
  intro k i acc hd ha hk
  obtain ⟨k, rfl⟩ : ∃ m, k = m + 1 := ⟨k - 1, by omega⟩
  simp only [spec_FactorEdges.l0]
  rw [if_neg (by omega), List.drop_eq_nil_of_le (by omega)]; simp
 | succ d ih =>
  intro k i acc hd ha hk
  obtain ⟨k, rfl⟩ : ∃ m, k = m + 1 := ⟨k - 1, by omega⟩
  have hi : i < (fac w (m + 1)).length := by omega
  obtain ⟨hs, hA, hB⟩ := fac_succ w m _ (List.getElem_mem hi)
  simp only [spec_FactorEdges.l0]
  rw [if_pos (by omega), if_pos (by omega), if_pos (by omega), rdOf_nat _ _ i hi]
  rw [if_pos (by omega), Int.toNat_natCast, numberE_f _ (by omega) (fac_SS w m) _ hA k (by omega), Option.bind_some, if_pos (by omega), numberE_f _ (by omega) (fac_SS w m) _ hB k (by omega), Option.bind_some, if_pos (by omega), wrap_succ (by omega)]
  rw [ih k (i + 1) _ (by omega) (by simp [ha]) (by omega), List.drop_eq_getElem_cons hi, List.map_cons]
  simp only [List.append_assoc, List.singleton_append]
  rfl
theorem impl_edges (w : ByteArray) (hw : w.size ≤ 1000) (m : Nat) (hm : m ≤ 100) : ∀ (d k i : Nat) (acc : List (List Int)), i + d = (fac w (m + 1)).length → acc.length = i → d + 2000 < k →
  impl_FactorEdges.l0 k (fac w m) acc (fac w (m + 1)) ((fac w (m + 1)).length : Int) (i : Int) (m : Int) = some (acc ++ ((fac w (m + 1)).drop i).map (edgeOf (fac w m) m), 0) := by
 have hl1 := fac_length_le w m
 have hl2 := fac_length_le w (m + 1)
 intro d
 induction d with
 | zero =>
  intro k i acc hd ha hk
  obtain ⟨k, rfl⟩ : ∃ m, k = m + 1 := ⟨k - 1, by omega⟩
  simp only [impl_FactorEdges.l0]
  rw [if_neg (by omega), List.drop_eq_nil_of_le (by omega)]; simp
 | succ d ih =>
  intro k i acc hd ha hk
  obtain ⟨k, rfl⟩ : ∃ m, k = m + 1 := ⟨k - 1, by omega⟩
  have hi : i < (fac w (m + 1)).length := by omega
  obtain ⟨hs, hA, hB⟩ := fac_succ w m _ (List.getElem_mem hi)
  simp only [impl_FactorEdges.l0]
  rw [if_pos (by omega), if_pos (by omega), if_pos (by omega), if_pos (by omega), rdOf_nat _ _ i hi]
  rw [if_pos (by omega), Int.toNat_natCast, search_f _ (by omega) (fac_SS w m) _ hA k (by omega), Option.bind_some, if_pos (by omega), search_f _ (by omega) (fac_SS w m) _ hB k (by omega), Option.bind_some, if_pos (by omega), wrap_succ (by omega)]
  rw [ih k (i + 1) _ (by omega) (by simp [ha]) (by omega), List.drop_eq_getElem_cons hi, List.map_cons]
  simp only [List.append_assoc, List.singleton_append]
  rfl
theorem edges_ev (w : ByteArray) (m : Int) (hw : w.size ≤ 100000) : Ev (fun k => spec_FactorEdges.f k w m) (if codeW (inR m 0 60) [w] = 0 then ((fac w (m.toNat + 1)).map (edgeOf (fac w m.toNat) m.toNat), 0) else ([], codeW (inR m 0 60) [w])) ∧ Ev (fun k => impl_FactorEdges.f k w m) (if codeW (inR m 0 60) [w] = 0 then ((fac w (m.toNat + 1)).map (edgeOf (fac w m.toNat) m.toNat), 0) else ([], codeW (inR m 0 60) [w])) := by
 unfold spec_FactorEdges.f impl_FactorEdges.f impl_FactorEdges_1.f
 simp only [isLength_f, Option.bind_some, wordCode_f]
 by_cases h0 : codeW (inR m 0 60) [w] = 0
 ·
  obtain ⟨n, rfl, hn0, hn⟩ := range_nat h0 (by omega)
  have hs := sz_word h0
  rw [if_pos h0, Int.toNat_natCast]
  have hfl := fac_length_le w (n + 1)
  have hws : wrap64 ((n : Int) + 1) = ((n + 1 : Nat) : Int) := wrap_succ (by omega)
  refine ⟨ev_bnd (l05Code_ev w _ (by omega)) ?_, ?_⟩
  ·
   simp only [h0, if_true, hws]
   refine ev_bnd (spec_factors_ev w n (by omega) (by omega)) (ev_bnd (spec_factors_ev w (n + 1) (by omega) (by omega)) ?_)
   refine ⟨5000, fun k hk => ?_⟩
   have := spec_edges w (by omega) n (by omega) (fac w (n + 1)).length k 0 [] (by omega) rfl (by omega)
   simpa using this
  ·
   simp only [h0, if_true, hws]
   refine ev_bnd (impl_factors_ev w n (by omega) (by omega)) (ev_bnd (impl_factors_ev w (n + 1) (by omega) (by omega)) ?_)
   refine ⟨5000, fun k hk => ?_⟩
   have := impl_edges w (by omega) n (by omega) (fac w (n + 1)).length k 0 [] (by omega) rfl (by omega)
   simpa using this
 ·
  rw [if_neg h0]
  refine ⟨ev_bnd (l05Code_ev w _ (by omega)) ?_, ?_⟩
  ·
   simp only [h0, if_false]; exact ev_of rfl
  ·
   simp only [h0, if_false]; exact ev_of rfl

end Go.Proofs.YtgfnkdoennbipaaGreat.PF

namespace Go.Proofs.YtgfnkdoennbipaaGreat.PF
open Go.RowKit Go.Proofs.YtgfnkdoennbipaaGreatW.PrintWords Go.Proofs.YtgfnkdoennbipaaGreatW.PrintLast Go.Proofs.YtgfnkdoennbipaaGreatW.PrintMore
set_option linter.unusedVariables false
set_option linter.unusedSimpArgs false
set_option maxRecDepth 20000

theorem like_loop (l : List Int) (hl : l.length ≤ 4000000000000) : ∀ (d k i : Nat), i + d = l.length → d < k → laws_likeInts.l0 k l l (i : Int) = some true := by
 intro d
 induction d with
 | zero =>
  intro k i hd hk
  obtain ⟨k, rfl⟩ : ∃ m, k = m + 1 := ⟨k - 1, by omega⟩
  simp only [laws_likeInts.l0]; rw [if_neg (by omega)]
 | succ d ih =>
  intro k i hd hk
  obtain ⟨k, rfl⟩ : ∃ m, k = m + 1 := ⟨k - 1, by omega⟩
  simp only [laws_likeInts.l0]
  rw [if_pos (by omega), if_pos (by omega), if_pos (by omega), if_pos trivial, wrap_succ (by omega), ih k (i + 1) (by omega) (by omega)]
theorem like_ev (l : List Int) (hl : l.length ≤ 4000000000000) : Ev (fun k => laws_likeInts.f k l l) true :=
 ⟨l.length + 1, fun k hk => by
  have h := like_loop l hl l.length k 0 (by omega) (by omega)
  simp only [laws_likeInts.f, if_true]; exact h⟩
theorem words5_loop (l : List ByteArray) (hl : l.length ≤ 4000000000000) : ∀ (d k i : Nat), i + d = l.length → d < k → laws_words5.l0 k l l (i : Int) = some true := by
 intro d
 induction d with
 | zero =>
  intro k i hd hk
  obtain ⟨k, rfl⟩ : ∃ m, k = m + 1 := ⟨k - 1, by omega⟩
  simp only [laws_words5.l0]; rw [if_neg (by omega)]
 | succ d ih =>
  intro k i hd hk
  obtain ⟨k, rfl⟩ : ∃ m, k = m + 1 := ⟨k - 1, by omega⟩
  simp only [laws_words5.l0]
  rw [if_pos (by omega), if_pos (by omega), if_pos (by omega), if_pos trivial, wrap_succ (by omega), ih k (i + 1) (by omega) (by omega)]
theorem words5_ev (l : List ByteArray) (hl : l.length ≤ 4000000000000) : Ev (fun k => laws_words5.f k l l) true :=
 ⟨l.length + 1, fun k hk => by
  have h := words5_loop l hl l.length k 0 (by omega) (by omega)
  simp only [laws_words5.f, if_true]; exact h⟩
theorem sum_loop (l : List Int) (hl : l.length ≤ 1000) (hx : ∀ x ∈ l, 0 ≤ x ∧ x ≤ 1000) : ∀ (d i : Nat) (s : Int), i + d = l.length → 0 ≤ s → s ≤ 1000 * i → ∀ k, d < k → laws_sum.l0 k l s (i : Int) = some (s + (l.drop i).sum) := by
 intro d
 induction d with
 | zero =>
  intro i s hd s0 s1 k hk
  obtain ⟨k, rfl⟩ : ∃ n, k = n + 1 := ⟨k - 1, by omega⟩
  rw [List.drop_eq_nil_of_le (by omega)]
  simp only [laws_sum.l0]; rw [if_neg (by omega)]; simp
 | succ d ih =>
  intro i s hd s0 s1 k hk
  obtain ⟨k, rfl⟩ : ∃ n, k = n + 1 := ⟨k - 1, by omega⟩
  have e1 : rd l (i : Int) = l[i] := rd_nat _ _ (by omega)
  have b1 := hx l[i] (List.getElem_mem _)
  simp only [laws_sum.l0]
  rw [if_pos (by omega), if_pos (by omega), e1, wrap_id (x := s + _) (by omega) (by omega), wrap_succ (by omega), ih (i + 1) _ (by omega) (by omega) (by omega) k (by omega), List.drop_eq_getElem_cons (i := i) (by omega), List.sum_cons]
  congr 1; omega
theorem sum_ev (l : List Int) (hl : l.length ≤ 1000) (hx : ∀ x ∈ l, 0 ≤ x ∧ x ≤ 1000) : Ev (fun k => laws_sum.f k l) l.sum :=
 ⟨l.length + 1, fun k hk => by
  have h := sum_loop l hl hx l.length 0 0 (by omega) (by omega) (by omega) k (by omega)
  rw [Int.zero_add, List.drop_zero] at h
  exact h⟩
theorem factorsOf_ev {w : ByteArray} (h : isW w = true) {m : Nat} (hm : m ≤ 60) : Ev (fun k => impl_FactorsOf.f k w (m : Int)) (fac w m, 0) := by
 have hs := isW_size h
 have h0 : codeW (inR (m : Int) 0 60) [w] = 0 := codeW_zero.2 ⟨by simp [h], inR_iff.2 ⟨by omega, by omega⟩⟩
 unfold impl_FactorsOf.f impl_FactorsOf_1.f
 simp only [isLength_f, Option.bind_some, wordCode_f, h0, if_true]
 exact ev_bnd (impl_factors_ev w m (by omega) (by omega)) (ev_of rfl)
theorem rdL_nat (l : List (List Int)) (i : Nat) (h : i < l.length) : rd_L5 l (i : Int) = l[i] := by simp [rd_L5, h]
theorem rows5_loop (l : List (List Int)) (hl : l.length ≤ 1000) (h2 : ∀ x ∈ l, x.length = 2) : ∀ (d k i : Nat), i + d = l.length → d + 10 < k → laws_rows5.l0 k l l (i : Int) = some true := by
 intro d
 induction d with
 | zero =>
  intro k i hd hk
  obtain ⟨k, rfl⟩ : ∃ m, k = m + 1 := ⟨k - 1, by omega⟩
  simp only [laws_rows5.l0]; rw [if_neg (by omega)]
 | succ d ih =>
  intro k i hd hk
  obtain ⟨k, rfl⟩ : ∃ m, k = m + 1 := ⟨k - 1, by omega⟩
  have hlen := h2 l[i] (List.getElem_mem _)
  have hlk : laws_likeInts.f k l[i] l[i] = some true := by
   have h := like_loop l[i] (by omega) l[i].length k 0 (by omega) (by omega)
   simp only [laws_likeInts.f, if_true]; exact h
  simp only [laws_rows5.l0]
  rw [if_pos (by omega), if_pos (by omega), if_pos (by omega), rdL_nat l i (by omega), hlk, Option.bind_some, if_pos rfl, wrap_succ (by omega), ih k (i + 1) (by omega) (by omega)]
theorem rows5_ev (l : List (List Int)) (hl : l.length ≤ 1000) (h2 : ∀ x ∈ l, x.length = 2) : Ev (fun k => laws_rows5.f k l l) true :=
 ⟨l.length + 11, fun k hk => by
  have h := rows5_loop l hl h2 l.length k 0 (by omega) (by omega)
  simp only [laws_rows5.f, if_true]; exact h⟩
theorem bis_left (w : ByteArray) (n : Nat) : (bis w n).length ≤ (spc w n false).length := by
 have e : bis w n = (spc w n false).filter fun x => decide (x ∈ spc w n true) := by
  refine SS_uniq (List.Pairwise.filter _ (spc_SS w n true)) (List.Pairwise.filter _ (spc_SS w n false)) fun x => ?_
  unfold bis
  simp only [List.mem_filter, decide_eq_true_eq]
  exact And.comm
 rw [e]; exact List.length_filter_le _ _
theorem bis_right (w : ByteArray) (n : Nat) : (bis w n).length ≤ (spc w n true).length := List.length_filter_le _ _
/-- How many edges leave a factor, of the first ones. -/
def lvs (w : ByteArray) (n i : Nat) (x : ByteArray) : Nat := (((fac w (n + 1)).take i).map (cutF true n)).count x
/-- The same, factor by factor. -/
def lvsL (w : ByteArray) (n i : Nat) : List Int := (fac w n).map fun x => (lvs w n i x : Int)
theorem lvs_le (w : ByteArray) (n i : Nat) (x : ByteArray) : lvs w n i x ≤ (fac w (n + 1)).length := by
 have h1 : lvs w n i x ≤ (((fac w (n + 1)).take i).map (cutF true n)).length := List.count_le_length
 rw [List.length_map, List.length_take] at h1
 omega
theorem lvs_zero (w : ByteArray) (n : Nat) : lvsL w n 0 = List.replicate (fac w n).length 0 := by
 refine List.ext_getElem (by simp [lvsL]) fun j h1 h2 => ?_
 simp [lvsL, lvs]
theorem lvs_step (w : ByteArray) (n i : Nat) (hi : i < (fac w (n + 1)).length) (x : ByteArray) : lvs w n (i + 1) x = lvs w n i x + if cutF true n (fac w (n + 1))[i] = x then 1 else 0 := by
 unfold lvs
 rw [List.take_succ_eq_append_getElem hi, List.map_append, List.count_append]
 congr 1
 simp only [List.map_cons, List.map_nil, List.count_singleton]
 by_cases e : cutF true n (fac w (n + 1))[i] = x
 ·
  simp [e]
 ·
  simp [e]
theorem lvs_set (w : ByteArray) (n i : Nat) (hi : i < (fac w (n + 1)).length) (a : Nat) (ha : a < (fac w n).length) (hc : (fac w n)[a] = cutF true n (fac w (n + 1))[i]) :
  (lvsL w n i).set a ((lvs w n i (fac w n)[a] : Int) + 1) = lvsL w n (i + 1) := by
 refine List.ext_getElem (by simp [lvsL]) fun j h1 h2 => ?_
 have hj : j < (fac w n).length := by simpa [lvsL] using h2
 by_cases e : a = j
 ·
  subst e
  rw [List.getElem_set_self]
  simp only [lvsL, List.getElem_map]
  rw [lvs_step w n i hi, if_pos hc.symm]; simp
 ·
  rw [List.getElem_set_ne e]
  simp only [lvsL, List.getElem_map]
  have hne : ¬ cutF true n (fac w (n + 1))[i] = (fac w n)[j] := fun h => by
   rw [← hc] at h
   have hS := fac_SS w n
   rcases Nat.lt_or_ge a j with g | g
   ·
    have := List.pairwise_iff_getElem.1 hS a j ha hj g
    rw [h] at this
    exact absurd this (List.lt_irrefl _)
   ·
    have := List.pairwise_iff_getElem.1 hS j a hj ha (by omega)
    rw [h] at this
    exact absurd this (List.lt_irrefl _)
  rw [lvs_step w n i hi, if_neg hne]; simp
theorem spc_count (w : ByteArray) (n : Nat) : (spc w n true).length = (fac w n).countP fun x => decide (2 ≤ lvs w n (fac w (n + 1)).length x) := by
 unfold spc lvs
 rw [List.take_length, List.countP_eq_length_filter]

end Go.Proofs.YtgfnkdoennbipaaGreat.PF
