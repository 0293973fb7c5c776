/- Plain facts on words: order, sorted lists of words, what the tests of words come to. -/
import Derived.Test.YtfehmbifcoajeaaGreatPFGivB
import Derived.Test.YtfehmbifcoajeaaGreatPFx1
import Derived.Test.YtfehmbifcoajeaaGreatPFx2
import Derived.Test.YtfehmbifcoajeaaGreatPFx5
import Derived.Test.YtfehmbifcoajeaaGreatPFx4
import Derived.Test.YtfehmbifcoajeaaGreatPFx3
import Derived.Test.YtfehmbifcoajeaaGreatPFGivX
import Derived.Test.YtfehmbifcoajeaaGreatPFGivY
import Derived.Test.YtfehmbifcoajeaaGreatPFx7
import Derived.Test.YtfehmbifcoajeaaGreatPFx9
namespace Go.Proofs.YtfehmbifcoajeaaGreat.PF
open Go.RowKit Go.Proofs.YtfehmbifcoajeaaGreatW.PrintWords Go.Proofs.YtfehmbifcoajeaaGreatW.PrintLast Go.Proofs.YtfehmbifcoajeaaGreatW.PrintMore
set_option linter.unusedVariables false
set_option linter.unusedSimpArgs false

theorem wrap_id {x : Int} (h0 : -9223372036854775808 ≤ x) (h1 : x ≤ 9223372036854775807) : wrap64 x = x := by
 unfold wrap64; omega

/-! ### order -/
theorem less_iff : ∀ a b : List UInt8, Op.bytesLess a b = true ↔ a < b
 | [], [] => by simp [Op.bytesLess]
 | [], b :: y => by simp [Op.bytesLess]
 | a :: x, [] => by simp [Op.bytesLess]
 | a :: x, b :: y => by
  rw [List.cons_lt_cons_iff, ← less_iff x y]
  simp [Op.bytesLess]

theorem toList_eq (a : ByteArray) : a.toList = a.data.toList := ByteArray.toList_eq a
theorem ba_ext {a b : ByteArray} (h : a.data.toList = b.data.toList) : a = b := ByteArray.ext (Array.toList_inj.1 h)
theorem ba_inj {a b : ByteArray} : a.toList = b.toList ↔ a = b := ⟨fun h => ba_ext (by rw [← toList_eq, ← toList_eq]; exact h), fun h => by rw [h]⟩
theorem ba_mk (a : ByteArray) : (⟨a.data.toList.toArray⟩ : ByteArray) = a := by cases a; simp

/-- Words strictly in order. -/
def SS (l : List ByteArray) : Prop := l.Pairwise fun a b => a.toList < b.toList

theorem SS_uniq : ∀ {l l' : List ByteArray}, SS l → SS l' → (∀ x, x ∈ l ↔ x ∈ l') → l = l'
 | [], [], _, _, _ => rfl
 | [], b :: l', _, _, h => by have := (h b).2 (by simp); simp at this
 | a :: l, [], _, _, h => by have := (h a).1 (by simp); simp at this
 | a :: l, b :: l', h1, h2, h => by
  obtain ⟨h1a, h1b⟩ := List.pairwise_cons.1 h1
  obtain ⟨h2a, h2b⟩ := List.pairwise_cons.1 h2
  have hab : a = b := by
   rcases List.mem_cons.1 ((h a).1 (by simp)) with e | hm
   ·
    exact e
   ·
    rcases List.mem_cons.1 ((h b).2 (by simp)) with e | hm2
    ·
     exact e.symm
    ·
     exact absurd (List.lt_trans (h1a b hm2) (h2a a hm)) (List.lt_irrefl _)
  subst hab
  refine congrArg _ (SS_uniq h1b h2b fun x => ⟨fun hx => ?_, fun hx => ?_⟩)
  ·
   rcases List.mem_cons.1 ((h x).1 (by simp [hx])) with e | hm
   ·
    subst e; exact absurd (h1a x hx) (List.lt_irrefl _)
   ·
    exact hm
  ·
   rcases List.mem_cons.1 ((h x).2 (by simp [hx])) with e | hm
   ·
    subst e; exact absurd (h2a x hx) (List.lt_irrefl _)
   ·
    exact hm

theorem SS_nodup {l : List ByteArray} (h : SS l) : l.Nodup := h.imp fun hab e => by subst e; exact absurd hab (List.lt_irrefl _)

/-! ### sorted lists -/
theorem mem_compact (zs : List (List UInt8)) (y : List UInt8) : y ∈ Lib.compact zs ↔ y ∈ zs := by
 unfold Lib.compact Lib.compactUpTo
 simp only [List.mem_map, List.mem_filter, List.mem_range]
 constructor
 ·
  rintro ⟨j, ⟨hj, _⟩, rfl⟩
  simp [hj]
 ·
  intro hy
  obtain ⟨j, hj, hjy⟩ := List.getElem_of_mem hy
  have key : ∀ n, ∀ j, j ≤ n → (hj : j < zs.length) → zs[j] = y → ∃ a, (a < zs.length ∧ Lib.keeps zs.toArray a = true) ∧ zs.toArray[a]! = y := by
   intro n
   induction n with
   | zero =>
    intro j hn hj hjy
    obtain rfl : j = 0 := by omega
    exact ⟨0, ⟨hj, Lib.keeps_lt_one _ 0 (by omega)⟩, by simp [hj, hjy]⟩
   | succ n ih =>
    intro j hn hj hjy
    by_cases hk : Lib.keeps zs.toArray j = true
    ·
     exact ⟨j, ⟨hj, hk⟩, by simp [hj, hjy]⟩
    ·
     have hj0 : j ≠ 0 := fun e => hk (by rw [e]; exact Lib.keeps_lt_one _ 0 (by omega))
     have he : zs.toArray[j]! = zs.toArray[j - 1]! := by
      by_cases he : zs.toArray[j]! = zs.toArray[j - 1]!
      ·
       exact he
      ·
       exact absurd (Lib.keeps_pos he) hk
     have hj1 : j - 1 < zs.length := by omega
     refine ih (j - 1) (by omega) hj1 ?_
     simp [hj, hj1] at he
     rw [← he]; exact hjy
  exact key j j (Nat.le_refl _) hj hjy

theorem compact_lt {zs : List (List UInt8)} (h : zs.Pairwise (· ≤ ·)) : (Lib.compact zs).Pairwise (· < ·) := by
 unfold Lib.compact Lib.compactUpTo
 rw [List.pairwise_map]
 refine List.Pairwise.imp_of_mem ?_ (List.Pairwise.filter _ List.pairwise_lt_range)
 intro i j hi hj hij
 obtain ⟨hi1, hi2⟩ := List.mem_filter.1 hi
 obtain ⟨hj1, hj2⟩ := List.mem_filter.1 hj
 simp only [List.mem_range] at hi1 hj1
 have hne : zs.toArray[j]! ≠ zs.toArray[j - 1]! := by
  intro e
  rw [Lib.keeps_neg (by omega) e] at hj2
  cases hj2
 have hj3 : j - 1 < zs.length := by omega
 have hle : ∀ a b (ha : a < zs.length) (hb : b < zs.length), a ≤ b → zs[a] ≤ zs[b] := by
  intro a b ha hb hab
  rcases Nat.lt_or_ge a b with hlt | hge
  ·
   exact List.pairwise_iff_getElem.1 h a b ha hb hlt
  ·
   obtain rfl : a = b := by omega
   exact List.le_refl _
 have h1 := hle i (j - 1) hi1 hj3 (by omega)
 have h2 := hle (j - 1) j hj3 hj1 (by omega)
 simp [hi1, hj1, hj3] at hne ⊢
 exact List.lt_of_le_of_lt h1 (Std.lt_of_le_of_ne h2 (fun e => hne e.symm))

/-- The words of a list, in order, each once. -/
def canon (l : List ByteArray) : List ByteArray := (sortedL (l.map fun b => b.data.toList)).map fun x => ⟨x.toArray⟩

theorem canon_SS (l : List ByteArray) : SS (canon l) := by
 unfold SS canon sortedL
 rw [List.pairwise_map]
 have h := List.pairwise_mergeSort (le := fun x y : List UInt8 => decide (x ≤ y)) (fun a b c h1 h2 => by simp only [decide_eq_true_eq] at *; exact List.le_trans h1 h2)
  (fun a b => by rcases List.le_total a b with h | h <;> simp [h]) (l.map fun b => b.data.toList)
 simp only [decide_eq_true_eq] at h
 exact (compact_lt h).imp fun hab => by rw [toList_eq, toList_eq]; exact hab

theorem mem_canon (l : List ByteArray) (x : ByteArray) : x ∈ canon l ↔ x ∈ l := by
 unfold canon sortedL
 simp only [List.mem_map, mem_compact, List.mem_mergeSort]
 constructor
 ·
  rintro ⟨_, ⟨a, ha, rfl⟩, rfl⟩; rw [ba_mk]; exact ha
 ·
  intro hx; exact ⟨_, ⟨x, hx, rfl⟩, ba_mk x⟩

theorem canon_eq {l r : List ByteArray} (h : SS r) (hm : ∀ x, x ∈ r ↔ x ∈ l) : r = canon l := SS_uniq h (canon_SS l) fun x => by rw [hm, mem_canon]

theorem canon_length_le (l : List ByteArray) : (canon l).length ≤ l.length := by
 unfold canon sortedL
 rw [List.length_map]
 have := Lib.compact_length_le ((l.map fun b => b.data.toList).mergeSort fun x y => decide (x ≤ y))
 rw [List.length_mergeSort, List.length_map] at this
 exact this

theorem sorted_f {l : List ByteArray} (h : l.length < 4611686018427387904) : impl_sorted.f l = some (canon l) := by
 unfold impl_sorted.f; rw [if_pos h]; rfl

/-! ### tests of words -/
theorem drop_bytes (a : ByteArray) (i : Nat) (h : i < a.size) : (bytesOf a).drop i = bt a (i : Int) :: (bytesOf a).drop (i + 1) := by
 rw [rd_drop _ i (by rw [bytesOf_length]; exact h), rd_bytesOf]

theorem is_loop (a : ByteArray) (ha : a.size ≤ 9000000000000000000) : ∀ (d k i : Nat), i + d = a.size → d < k → spec_l01Is.l0 k a (i : Int) = some (decide (a.size ≤ 60) && ((bytesOf a).drop i).all isLet) := by
 intro d
 induction d with
 | zero =>
  intro k i hd hk
  obtain ⟨k, rfl⟩ : ∃ m, k = m + 1 := ⟨k - 1, by omega⟩
  simp only [spec_l01Is.l0]
  rw [if_neg (by omega), List.drop_eq_nil_of_le (by rw [bytesOf_length]; omega)]
  simp
  omega
 | succ d ih =>
  intro k i hd hk
  obtain ⟨k, rfl⟩ : ∃ m, k = m + 1 := ⟨k - 1, by omega⟩
  simp only [spec_l01Is.l0]
  rw [if_pos (by omega), if_pos (by omega), drop_bytes a i (by omega)]
  simp only [List.all_cons, isLet]
  by_cases h1 : bt a (i : Int) < 97
  ·
   rw [if_pos h1, decide_eq_false (by omega : ¬ 97 ≤ bt a (i : Int))]; simp
  ·
   rw [if_neg h1]
   by_cases h2 : bt a (i : Int) > 101
   ·
    rw [if_pos h2, decide_eq_false (by omega : ¬ bt a (i : Int) < 102)]; simp
   ·
    rw [if_neg h2, decide_eq_true (by omega : 97 ≤ bt a (i : Int)), decide_eq_true (by omega : bt a (i : Int) < 102), wrap_id (by omega) (by omega)]
    rw [show (i : Int) + 1 = ((i + 1 : Nat) : Int) from rfl, ih k (i + 1) (by omega) (by omega)]
    simp [isLet]

theorem l01Is_ev (a : ByteArray) (ha : a.size ≤ 9000000000000000000) : Ev (fun k => spec_l01Is.f k a) (isW a) :=
 ⟨a.size + 1, fun k hk => by
  have h := is_loop a ha a.size k 0 (by omega) (by omega)
  exact h⟩

theorem isW_size {a : ByteArray} (h : isW a = true) : a.size ≤ 60 := by
 simp only [isW, Bool.and_eq_true, decide_eq_true_eq] at h; exact h.1

/-- The code of words with a range. -/
def codeW (b : Bool) (l : List ByteArray) : Int := if l.all isW = true then (if b = true then 0 else 2) else 1
theorem wordCode_f (k : Nat) (b : Bool) (l : List ByteArray) : impl_wordCode.f k (some b) l = some (codeW b l) := by
 unfold impl_wordCode.f codeW
 split
 ·
  simp only [Option.bind_some]; split <;> rfl
 ·
  rfl

end Go.Proofs.YtfehmbifcoajeaaGreat.PF

namespace Go.Proofs.YtfehmbifcoajeaaGreat.PF
open Go.RowKit Go.Proofs.YtfehmbifcoajeaaGreatW.PrintWords Go.Proofs.YtfehmbifcoajeaaGreatW.PrintLast Go.Proofs.YtfehmbifcoajeaaGreatW.PrintMore
set_option linter.unusedVariables false
set_option linter.unusedSimpArgs false

theorem ev_bnd {α β : Type} {g : Nat → Option α} {f : Nat → α → Option β} {a : α} {r : β} (h1 : Ev g a) (h2 : Ev (fun k => f k a) r) : Ev (fun k => (g k).bind (f k)) r := by
 obtain ⟨K1, h1⟩ := h1
 obtain ⟨K2, h2⟩ := h2
 exact ⟨K1 + K2, fun k hk => by show (g k).bind (f k) = some r; rw [h1 k (by omega)]; exact h2 k (by omega)⟩
theorem ev_of {α : Type} {c : Option α} {r : α} (h : c = some r) : Ev (fun _ => c) r := ⟨0, fun _ _ => h⟩
theorem ev_suc {α : Type} {g : Nat → Option α} {r : α} (h : Ev (fun k => g (k + 1)) r) : Ev g r := by
 obtain ⟨K, h⟩ := h
 exact ⟨K + 1, fun k hk => by obtain ⟨k, rfl⟩ : ∃ n, k = n + 1 := ⟨k - 1, by omega⟩; exact h k (by omega)⟩
theorem ev_get {α : Type} {g : Nat → Option α} {r : α} (h : Ev g r) : ∃ k, g k = some r := by obtain ⟨K, h⟩ := h; exact ⟨K, h K (Nat.le_refl _)⟩
theorem ev_congr {α : Type} {g : Nat → Option α} {r r' : α} (h : Ev g r) (e : r = r') : Ev g r' := e ▸ h

theorem bne_false {α : Type} [BEq α] [ReflBEq α] (a : α) : (a != a) = false := by simp [bne]

theorem wrap_nat {x : Int} {n : Nat} (h : x = n) (hn : n ≤ 4611686018427387904) : wrap64 x = (n : Int) := by rw [h, wrap_id (by omega) (by omega)]
theorem wrap_succ {i : Nat} (hn : i < 4611686018427387904) : wrap64 ((i : Int) + 1) = ((i + 1 : Nat) : Int) := wrap_nat (n := i + 1) (by omega) (by omega)
theorem rd_nat (l : List Int) (i : Nat) (h : i < l.length) : rd l (i : Int) = l[i] := by simp [rd, h]
theorem rdOf_nat {α : Type} (d : α) (l : List α) (i : Nat) (h : i < l.length) : rdOf d l (i : Int) = l[i] := by simp [rdOf, h]

end Go.Proofs.YtfehmbifcoajeaaGreat.PF

namespace Go.Proofs.YtfehmbifcoajeaaGreat.PF
open Go.RowKit Go.Proofs.YtfehmbifcoajeaaGreatW.PrintWords Go.Proofs.YtfehmbifcoajeaaGreatW.PrintLast Go.Proofs.YtfehmbifcoajeaaGreatW.PrintMore
set_option linter.unusedVariables false
set_option linter.unusedSimpArgs false

theorem codeW_zero {b : Bool} {l : List ByteArray} : codeW b l = 0 ↔ l.all isW = true ∧ b = true := by
 unfold codeW
 by_cases h : l.all isW = true <;> cases b <;> simp [h]

theorem sz_word {w : ByteArray} {l : List ByteArray} {b : Bool} (h : codeW b (w :: l) = 0) : w.size ≤ 60 := by
 have := (codeW_zero.1 h).1
 simp only [List.all_cons, Bool.and_eq_true] at this
 exact isW_size this.1
theorem sz_word2 {w v : ByteArray} {l : List ByteArray} {b : Bool} (h : codeW b (w :: v :: l) = 0) : v.size ≤ 60 := by
 have := (codeW_zero.1 h).1
 simp only [List.all_cons, Bool.and_eq_true] at this
 exact isW_size this.2.1
theorem codeW_le {b : Bool} {l : List ByteArray} : codeW b l = 0 ∨ codeW b l = 1 ∨ codeW b l = 2 := by unfold codeW; split <;> (try split) <;> simp

end Go.Proofs.YtfehmbifcoajeaaGreat.PF

namespace Go.Proofs.YtfehmbifcoajeaaGreat.PF
open Go.RowKit Go.Proofs.YtfehmbifcoajeaaGreatW.PrintWords Go.Proofs.YtfehmbifcoajeaaGreatW.PrintLast Go.Proofs.YtfehmbifcoajeaaGreatW.PrintMore
set_option linter.unusedVariables false
set_option linter.unusedSimpArgs false

/-- Is a number in a range? -/
def inR (n lo hi : Int) : Bool := decide (lo ≤ n) && decide (n ≤ hi)
theorem l01In_f (n lo hi : Int) : spec_l01In.f n lo hi = some (inR n lo hi) := by
 unfold spec_l01In.f inR
 by_cases h : n ≥ lo
 ·
  rw [if_pos h, decide_eq_true (show lo ≤ n from h)]; simp
 ·
  rw [if_neg h, decide_eq_false (show ¬ lo ≤ n from h)]; simp
theorem within_f (n lo hi : Int) : impl_within.f n lo hi = some (inR n lo hi) := by
 unfold impl_within.f inR
 by_cases h : lo ≤ n
 ·
  rw [if_pos h, decide_eq_true h]; simp
 ·
  rw [if_neg h, decide_eq_false h]; simp
theorem inR_iff {n lo hi : Int} : inR n lo hi = true ↔ lo ≤ n ∧ n ≤ hi := by simp [inR]
theorem range_nat {l : List ByteArray} {m lo hi : Int} (h : codeW (inR m lo hi) l = 0) (h0 : 0 ≤ lo) : ∃ n : Nat, m = n ∧ lo ≤ (n : Int) ∧ (n : Int) ≤ hi := by
 have := inR_iff.1 (codeW_zero.1 h).2
 exact ⟨m.toNat, by omega, by omega, by omega⟩
end Go.Proofs.YtfehmbifcoajeaaGreat.PF

namespace Go.Proofs.YtfehmbifcoajeaaGreat.PF
open Go.RowKit Go.Proofs.YtfehmbifcoajeaaGreatW.PrintWords Go.Proofs.YtfehmbifcoajeaaGreatW.PrintLast Go.Proofs.YtfehmbifcoajeaaGreatW.PrintMore
set_option linter.unusedVariables false
set_option linter.unusedSimpArgs false

theorem l05Code_ev (a : ByteArray) (m : Int) (ha : a.size ≤ 9000000000000000000) : Ev (fun k => spec_l05Code.f k a m) (codeW (inR m 0 60) [a]) := by
 unfold spec_l05Code.f
 refine ev_bnd (l01Is_ev a ha) ?_
 simp only [l01In_f, Option.bind_some]
 refine ev_of ?_
 unfold codeW
 by_cases h1 : isW a = true <;> by_cases h2 : inR m 0 60 = true <;> simp [h1, h2]

theorem l05Two_ev (a b : ByteArray) (ha : a.size ≤ 9000000000000000000) (hb : b.size ≤ 9000000000000000000) : Ev (fun k => spec_l05Two.f k a b) (codeW (b.toList != ([] : List UInt8)) [a, b]) := by
 unfold spec_l05Two.f
 refine ev_bnd (l01Is_ev a ha) ?_
 by_cases h1 : isW a = true
 ·
  simp only [h1, if_true]
  refine ev_bnd (l01Is_ev b hb) ?_
  refine ev_suc ?_
  simp only [spec_l05Two.j0]
  refine ev_of ?_
  unfold codeW
  by_cases h2 : isW b = true <;> by_cases h3 : b.toList = ([] : List UInt8) <;> simp [h1, h2, h3]
 ·
  simp only [h1, if_false]
  refine ev_suc ?_
  simp only [spec_l05Two.j0]
  refine ev_of ?_
  unfold codeW
  simp [h1]

end Go.Proofs.YtfehmbifcoajeaaGreat.PF

namespace Go.Proofs.YtfehmbifcoajeaaGreat.PF
open Go.RowKit Go.Proofs.YtfehmbifcoajeaaGreatW.PrintWords Go.Proofs.YtfehmbifcoajeaaGreatW.PrintLast Go.Proofs.YtfehmbifcoajeaaGreatW.PrintMore
set_option linter.unusedVariables false
set_option linter.unusedSimpArgs false

theorem isLength_f (m : Int) : impl_isLength.f m = some (inR m 0 60) := by unfold impl_isLength.f; rw [within_f]; rfl

end Go.Proofs.YtfehmbifcoajeaaGreat.PF

namespace Go.Proofs.YtfehmbifcoajeaaGreat.PF
open Go.RowKit Go.Proofs.YtfehmbifcoajeaaGreatW.PrintWords Go.Proofs.YtfehmbifcoajeaaGreatW.PrintLast Go.Proofs.YtfehmbifcoajeaaGreatW.PrintMore
set_option linter.unusedVariables false
set_option linter.unusedSimpArgs false

theorem ba_toList_inj {a b : ByteArray} : (a.toList = b.toList) = (a = b) := propext ba_inj

theorem hasPrefix_f (a b : ByteArray) (ha : a.size ≤ 9000000000000000000) : strings_HasPrefix.f a b = some (decide (b.size ≤ a.size ∧ a.extract 0 b.size = b)) := by
 unfold strings_HasPrefix.f stringslite_HasPrefix.f
 by_cases h : b.size ≤ a.size
 ·
  simp only [show (a.size : Int) ≥ (b.size : Int) by omega, show (0 : Int) ≤ (b.size : Int) by omega, if_true, show (b.size : Int) ≤ (a.size : Int) by omega, Int.toNat_natCast, Option.bind_some, h, true_and]
  rw [Bool.beq_eq_decide_eq]
  simp only [ba_toList_inj]
 ·
  simp only [show ¬ (a.size : Int) ≥ (b.size : Int) by omega, if_false, Option.bind_some, h, false_and, decide_false]

theorem hasPrefix_at (w v : ByteArray) (i : Nat) (hi : i ≤ w.size) (hw : w.size ≤ 9000000000000000000) : strings_HasPrefix.f (w.extract i w.size) v = some (decide (i + v.size ≤ w.size ∧ w.extract i (i + v.size) = v)) := by
 rw [hasPrefix_f _ _ (by rw [ByteArray.size_extract]; omega)]
 congr 1
 rw [decide_eq_decide, ByteArray.size_extract, ByteArray.extract_extract]
 constructor
 ·
  rintro ⟨h1, h2⟩
  have : i + v.size ≤ w.size := by omega
  refine ⟨this, ?_⟩
  rwa [Nat.add_zero, Nat.min_eq_left this] at h2
 ·
  rintro ⟨h1, h2⟩
  refine ⟨by omega, ?_⟩
  rwa [Nat.add_zero, Nat.min_eq_left h1]

/-- The places from i on. -/
def plcs (w v : ByteArray) : Nat → Nat → List Int
 | 0, _ => []
 | d + 1, i => if i + v.size ≤ w.size ∧ w.extract i (i + v.size) = v then (i : Int) :: plcs w v d (i + 1) else plcs w v d (i + 1)
def places (w v : ByteArray) : List Int := plcs w v (w.size + 1) 0

theorem plcs_nil (w v : ByteArray) : ∀ d i, w.size < i + v.size → plcs w v d i = []
 | 0, _, _ => rfl
 | d + 1, i, h => by rw [plcs, if_neg (fun c => by omega), plcs_nil w v d (i + 1) (by omega)]
theorem plcs_length (w v : ByteArray) : ∀ d i, (plcs w v d i).length ≤ d
 | 0, _ => Nat.le_refl _
 | d + 1, i => by
  have := plcs_length w v d (i + 1)
  rw [plcs]; split
  ·
   rw [List.length_cons]; omega
  ·
   omega
theorem plcs_mem (w v : ByteArray) (x : Int) : ∀ d i, x ∈ plcs w v d i → ∃ j : Nat, x = j ∧ i ≤ j ∧ j + v.size ≤ w.size ∧ w.extract j (j + v.size) = v
 | 0, _, h => by cases h
 | d + 1, i, h => by
  rw [plcs] at h
  split at h
  ·
   rename_i c
   rcases List.mem_cons.1 h with e | h
   ·
    exact ⟨i, e, Nat.le_refl _, c.1, c.2⟩
   ·
    obtain ⟨j, h1, h2, h3⟩ := plcs_mem w v x d (i + 1) h
    exact ⟨j, h1, by omega, h3⟩
  ·
   obtain ⟨j, h1, h2, h3⟩ := plcs_mem w v x d (i + 1) h
   exact ⟨j, h1, by omega, h3⟩
theorem plcs_sorted (w v : ByteArray) : ∀ d i, (plcs w v d i).Pairwise (· < ·)
 | 0, _ => List.Pairwise.nil
 | d + 1, i => by
  rw [plcs]; split
  ·
   refine List.pairwise_cons.2 ⟨fun y hy => ?_, plcs_sorted w v d (i + 1)⟩
   obtain ⟨j, h1, h2, _⟩ := plcs_mem w v y d (i + 1) hy
   omega
  ·
   exact plcs_sorted w v d (i + 1)

theorem places_length (w v : ByteArray) : (places w v).length ≤ w.size + 1 := plcs_length w v _ _

theorem spec_places_loop (w v : ByteArray) (hw : w.size ≤ 60) (hv : v.size ≤ 60) : ∀ (d k i : Nat) (acc : List Int), i + d = w.size + 1 → acc.length ≤ i → d < k →
  spec_l01Places.l0 k w v acc (i : Int) = some (acc ++ plcs w v d i) := by
 intro d
 induction d with
 | zero =>
  intro k i acc hd ha hk
  obtain ⟨k, rfl⟩ : ∃ n, k = n + 1 := ⟨k - 1, by omega⟩
  simp only [spec_l01Places.l0]
  rw [wrap_id (by omega) (by omega), if_neg (by omega)]
  simp [plcs]
 | succ d ih =>
  intro k i acc hd ha hk
  obtain ⟨k, rfl⟩ : ∃ n, k = n + 1 := ⟨k - 1, by omega⟩
  simp only [spec_l01Places.l0]
  rw [wrap_nat (n := i + v.size) (by omega) (by omega)]
  by_cases h : i + v.size ≤ w.size
  ·
   rw [if_pos (by omega), if_pos (by omega), if_pos (by omega), wrap_succ (by omega), Int.toNat_natCast, Int.toNat_natCast]
   by_cases c : w.extract i (i + v.size) = v
   ·
    rw [if_pos (by rw [c]), if_pos (by omega), ih k (i + 1) _ (by omega) (by simp; omega) (by omega), plcs, if_pos ⟨h, c⟩]
    simp
   ·
    rw [if_neg (by rw [ba_toList_inj]; exact c), ih k (i + 1) _ (by omega) (by omega) (by omega), plcs, if_neg (fun e => c e.2)]
  ·
   rw [if_neg (by omega), plcs_nil w v _ _ (by omega)]; simp

theorem spec_places_ev (w v : ByteArray) (hw : w.size ≤ 60) (hv : v.size ≤ 60) : Ev (fun k => spec_l01Places.f k w v) (places w v) :=
 ⟨w.size + 2, fun k hk => by
  have h := spec_places_loop w v hw hv (w.size + 1) k 0 [] (by omega) (by simp) (by omega)
  exact h⟩

theorem impl_places_loop (w v : ByteArray) (hw : w.size ≤ 60) (hv : v.size ≤ 60) : ∀ (d k i : Nat) (acc : List Int), i + d = w.size + 1 → acc.length ≤ i → d < k →
  impl_places.l0 k w v acc ((w.size : Int) + 1) (i : Int) = some (acc ++ plcs w v d i) := by
 intro d
 induction d with
 | zero =>
  intro k i acc hd ha hk
  obtain ⟨k, rfl⟩ : ∃ n, k = n + 1 := ⟨k - 1, by omega⟩
  simp only [impl_places.l0]
  rw [if_neg (by omega)]
  simp [plcs]
 | succ d ih =>
  intro k i acc hd ha hk
  obtain ⟨k, rfl⟩ : ∃ n, k = n + 1 := ⟨k - 1, by omega⟩
  simp only [impl_places.l0]
  rw [if_pos (by omega), if_pos (by omega), if_pos (by omega), wrap_succ (by omega), Int.toNat_natCast, hasPrefix_at w v i (by omega) (by omega)]
  simp only [Option.bind_some, decide_eq_true_eq]
  by_cases c : i + v.size ≤ w.size ∧ w.extract i (i + v.size) = v
  ·
   rw [if_pos c, if_pos (by omega), ih k (i + 1) _ (by omega) (by simp; omega) (by omega), plcs, if_pos c]
   simp
  ·
   rw [if_neg c, ih k (i + 1) _ (by omega) (by omega) (by omega), plcs, if_neg c]

theorem impl_places_ev (w v : ByteArray) (hw : w.size ≤ 60) (hv : v.size ≤ 60) : Ev (fun k => impl_places.f k w v) (places w v) :=
 ⟨w.size + 2, fun k hk => by
  have h := impl_places_loop w v hw hv (w.size + 1) k 0 [] (by omega) (by simp) (by omega)
  show impl_places.f k w v = _
  unfold impl_places.f
  rw [wrap_id (by omega) (by omega)]
  exact h⟩

end Go.Proofs.YtfehmbifcoajeaaGreat.PF

namespace Go.Proofs.YtfehmbifcoajeaaGreat.PF
end Go.Proofs.YtfehmbifcoajeaaGreat.PF

namespace Go.Proofs.YtfehmbifcoajeaaGreat.PF
open Go.RowKit Go.Proofs.YtfehmbifcoajeaaGreatW.PrintWords Go.Proofs.YtfehmbifcoajeaaGreatW.PrintLast Go.Proofs.YtfehmbifcoajeaaGreatW.PrintMore
set_option linter.unusedVariables false
set_option linter.unusedSimpArgs false

theorem rdOf_get {α : Type} (d : α) (l : List α) (i : Nat) (h : i < l.length) : rdOf d l (i : Int) = l[i] := by
 simp [rdOf, h]

/-- The reference's insertion: from place n down; what lies from n on is greater. -/
theorem put_loop (l : List ByteArray) (x : ByteArray) (hS : SS l) (hl : l.length < 4000000000000) : ∀ (n k : Nat), n ≤ l.length → n < k → (∀ j (hj : j < l.length), n ≤ j → x.toList < l[j].toList) →
  ∃ r, spec_l01Put.l0 k l x (n : Int) = some r ∧ SS r ∧ (∀ y, y ∈ r ↔ y ∈ l ∨ y = x) := by
 intro n
 induction n with
 | zero =>
  intro k hn hk hgt
  obtain ⟨k, rfl⟩ : ∃ m, k = m + 1 := ⟨k - 1, by omega⟩
  refine ⟨x :: l, ?_, ?_, ?_⟩
  ·
   simp only [spec_l01Put.l0]
   rw [if_neg (by omega)]
   try simp only [Option.bind_some]
   rw [if_pos (by omega), if_pos (by omega)]
   simp only [Int.toNat_natCast, List.take_zero, List.drop_zero, List.nil_append, List.length_nil, List.length_singleton]
   rw [if_pos (by omega)]
   try simp only [Option.bind_some]
   rw [if_pos (by omega)]
   simp only [Option.bind_some, List.singleton_append]
   rw [if_pos (by first | omega | (simp; omega))]
  ·
   refine List.pairwise_cons.2 ⟨fun y hy => ?_, hS⟩
   obtain ⟨j, hj, rfl⟩ := List.getElem_of_mem hy
   exact hgt j hj (by omega)
  ·
   intro y; simp [or_comm]
 | succ n ih =>
  intro k hn hk hgt
  obtain ⟨k, rfl⟩ : ∃ m, k = m + 1 := ⟨k - 1, by omega⟩
  have hw : wrap64 (((n + 1 : Nat) : Int) - 1) = (n : Int) := by rw [wrap_id (by omega) (by omega)]; omega
  simp only [spec_l01Put.l0, hw]
  rw [if_pos (by omega), if_pos (by omega), if_pos (by omega), rdOf_get _ _ n (by omega)]
  by_cases h1 : Op.bytesLess x.toList l[n].toList = true
  ·
   rw [if_pos h1]
   refine ih k (by omega) (by omega) ?_
   intro j hj hnj
   by_cases e : j = n
   ·
    subst e; exact (less_iff _ _).1 h1
   ·
    exact hgt j hj (by omega)
  ·
   rw [if_neg h1]
   by_cases h2 : l[n].toList = x.toList
   ·
    rw [if_pos h2]
    have hx := ba_inj.1 h2
    exact ⟨l, rfl, hS, fun y => ⟨.inl, fun h => h.elim id (fun e => by rw [e, ← hx]; exact List.getElem_mem _)⟩⟩
   ·
    rw [if_neg h2]
    have hlt : l[n].toList < x.toList := by
     have : ¬ x.toList < l[n].toList := fun h => h1 ((less_iff _ _).2 h)
     exact Std.lt_of_le_of_ne this h2
    refine ⟨l.take (n + 1) ++ [x] ++ l.drop (n + 1), ?_, ?_, ?_⟩
    ·
     simp only [Option.bind_some]
     rw [if_pos (by omega), if_pos (by omega)]
     simp only [Int.toNat_natCast, List.nil_append, List.length_nil, Nat.zero_add]
     rw [if_pos (by rw [List.length_take]; omega)]
     try simp only [Option.bind_some]
     rw [if_pos (by rw [List.length_take]; omega)]
     try simp only [Option.bind_some]
     rw [if_pos (by simp only [List.length_append, List.length_take, List.length_singleton, List.length_drop]; omega)]
    ·
     have htd : SS (l.take (n + 1) ++ l.drop (n + 1)) := by rw [List.take_append_drop]; exact hS
     obtain ⟨p1, p2, p3⟩ := List.pairwise_append.1 htd
     unfold SS
     rw [List.append_assoc]
     refine List.pairwise_append.2 ⟨p1, ?_, ?_⟩
     ·
      rw [List.singleton_append]
      refine List.pairwise_cons.2 ⟨fun y hy => ?_, p2⟩
      obtain ⟨j, hj, rfl⟩ := List.getElem_of_mem hy
      rw [List.getElem_drop]
      rw [List.length_drop] at hj
      exact hgt (n + 1 + j) (by omega) (by omega)
     ·
      intro a ha b hb
      have hax : a.toList < x.toList := by
       obtain ⟨j, hj, rfl⟩ := List.getElem_of_mem ha
       rw [List.length_take] at hj
       rw [List.getElem_take]
       by_cases e : j = n
       ·
        subst e; exact hlt
       ·
        exact List.lt_trans (List.pairwise_iff_getElem.1 hS j n (by omega) (by omega) (by omega)) hlt
      rcases List.mem_append.1 hb with hb | hb
      ·
       obtain rfl := List.mem_singleton.1 hb; exact hax
      ·
       exact p3 a ha b hb
    ·
     intro y
     have : y ∈ l ↔ y ∈ l.take (n + 1) ∨ y ∈ l.drop (n + 1) := by rw [← List.mem_append, List.take_append_drop]
     rw [this]
     simp only [List.mem_append, List.mem_singleton]
     constructor
     ·
      rintro ((h | h) | h)
      ·
       exact .inl (.inl h)
      ·
       exact .inr h
      ·
       exact .inl (.inr h)
     ·
      rintro ((h | h) | h)
      ·
       exact .inl (.inl h)
      ·
       exact .inr h
      ·
       exact .inl (.inr h)

theorem put_ev (l : List ByteArray) (x : ByteArray) (hl : l.length < 4000000000000) : ∀ k, l.length < k → spec_l01Put.f k (canon l) x = some (canon (l ++ [x])) := by
 intro k hk
 have hle := canon_length_le l
 obtain ⟨r, h1, h2, h3⟩ := put_loop (canon l) x (canon_SS l) (by omega) (canon l).length k (Nat.le_refl _) (by omega) (fun j hj hn => by omega)
 unfold spec_l01Put.f
 rw [h1, canon_eq h2 (l := l ++ [x]) (fun y => by rw [h3, mem_canon]; simp)]

/-- The factors of a length, place by place, from place i on. -/
def fcsFrom (w : ByteArray) (m : Nat) : Nat → Nat → List ByteArray
 | 0, _ => []
 | d + 1, i => w.extract i (i + m) :: fcsFrom w m d (i + 1)
/-- How many places a factor of a length has. -/
def plc (w : ByteArray) (m : Nat) : Nat := w.size + 1 - m
def fcs (w : ByteArray) (m : Nat) : List ByteArray := fcsFrom w m (plc w m) 0
/-- The different factors of a length, in order. -/
def fac (w : ByteArray) (m : Nat) : List ByteArray := canon (fcs w m)

theorem fcsFrom_length (w : ByteArray) (m : Nat) : ∀ d i, (fcsFrom w m d i).length = d
 | 0, _ => rfl
 | d + 1, i => by rw [fcsFrom, List.length_cons, fcsFrom_length w m d]

theorem mem_fcsFrom (w : ByteArray) (m : Nat) (x : ByteArray) : ∀ d i, x ∈ fcsFrom w m d i ↔ ∃ j, i ≤ j ∧ j < i + d ∧ x = w.extract j (j + m)
 | 0, i => by simp [fcsFrom]; intro j h1 h2; omega
 | d + 1, i => by
  rw [fcsFrom, List.mem_cons, mem_fcsFrom w m x d (i + 1)]
  constructor
  ·
   rintro (h | ⟨j, h1, h2, h3⟩)
   ·
    exact ⟨i, by omega, by omega, h⟩
   ·
    exact ⟨j, by omega, by omega, h3⟩
  ·
   rintro ⟨j, h1, h2, h3⟩
   by_cases e : j = i
   ·
    subst e; exact .inl h3
   ·
    exact .inr ⟨j, by omega, by omega, h3⟩

theorem mem_fac (w : ByteArray) (m : Nat) (x : ByteArray) : x ∈ fac w m ↔ ∃ j, j + m ≤ w.size ∧ x = w.extract j (j + m) := by
 unfold fac fcs plc
 rw [mem_canon, mem_fcsFrom]
 constructor
 ·
  rintro ⟨j, _, h2, h3⟩; exact ⟨j, by omega, h3⟩
 ·
  rintro ⟨j, h2, h3⟩; exact ⟨j, by omega, by omega, h3⟩

theorem fac_SS (w : ByteArray) (m : Nat) : SS (fac w m) := canon_SS _
theorem fac_length_le (w : ByteArray) (m : Nat) : (fac w m).length ≤ w.size + 1 - m := by
 have := canon_length_le (fcs w m); unfold fcs at this; rw [fcsFrom_length] at this; exact this

theorem extract_size (w : ByteArray) {i j : Nat} (h1 : i ≤ j) (h2 : j ≤ w.size) : (w.extract i j).size = j - i := by
 rw [ByteArray.size_extract]; omega

theorem impl_factors_loop (w : ByteArray) (m : Nat) (hw : w.size ≤ 1000000) (hm : m ≤ 1000000) : ∀ (d k i : Nat) (acc : List ByteArray), i + d = plc w m → acc.length = i → d < k →
  impl_factors.l0 k w (m : Int) acc (i : Int) = some (canon (acc ++ fcsFrom w m d i)) := by
 intro d
 induction d with
 | zero =>
  intro k i acc hd ha hk
  obtain ⟨k, rfl⟩ : ∃ n, k = n + 1 := ⟨k - 1, by omega⟩
  unfold plc at hd
  simp only [impl_factors.l0]
  rw [wrap_id (by omega) (by omega), if_neg (by omega), sorted_f (by omega)]
  simp [fcsFrom]
 | succ d ih =>
  intro k i acc hd ha hk
  obtain ⟨k, rfl⟩ : ∃ n, k = n + 1 := ⟨k - 1, by omega⟩
  have hd' := hd
  unfold plc at hd'
  simp only [impl_factors.l0]
  rw [wrap_id (x := (i : Int) + m) (by omega) (by omega), if_pos (by omega), if_pos (by omega), if_pos (by omega), if_pos (by omega), wrap_id (x := (i : Int) + 1) (by omega) (by omega)]
  rw [show (i : Int) + 1 = ((i + 1 : Nat) : Int) from rfl, ih k (i + 1) _ (by omega) (by simp [ha]) (by omega)]
  rw [show ((i : Int) + (m : Int)).toNat = i + m by omega, Int.toNat_natCast]
  simp [fcsFrom]

theorem impl_factors_ev (w : ByteArray) (m : Nat) (hw : w.size ≤ 1000000) (hm : m ≤ 1000000) : Ev (fun k => impl_factors.f k w (m : Int)) (fac w m) :=
 ⟨w.size + 2, fun k hk => by
  have h := impl_factors_loop w m hw hm (plc w m) k 0 [] (by omega) rfl (by unfold plc; omega)
  exact h⟩

theorem canon_nil : canon [] = [] := List.eq_nil_iff_forall_not_mem.2 fun x hx => by rw [mem_canon] at hx; cases hx

end Go.Proofs.YtfehmbifcoajeaaGreat.PF

namespace Go.Proofs.YtfehmbifcoajeaaGreat.PF
open Go.RowKit Go.Proofs.YtfehmbifcoajeaaGreatW.PrintWords Go.Proofs.YtfehmbifcoajeaaGreatW.PrintLast Go.Proofs.YtfehmbifcoajeaaGreatW.PrintMore
set_option linter.unusedVariables false
set_option linter.unusedSimpArgs false

theorem spec_factors_loop (w : ByteArray) (m : Nat) (hw : w.size ≤ 1000000) (hm : m ≤ 1000000) : ∀ (d k i : Nat) (acc : List ByteArray), i + d = plc w m → acc.length = i → d + i + 2 < k →
  spec_l01Factors.l0 (k + d) w (m : Int) (canon acc) (i : Int) = some (canon (acc ++ fcsFrom w m d i)) := by
 intro d
 induction d with
 | zero =>
  intro k i acc hd ha hk
  obtain ⟨k, rfl⟩ : ∃ n, k = n + 1 := ⟨k - 1, by omega⟩
  unfold plc at hd
  simp only [spec_l01Factors.l0]
  rw [wrap_id (by omega) (by omega), if_neg (by omega)]
  simp [fcsFrom]
 | succ d ih =>
  intro k i acc hd ha hk
  have hd' := hd
  unfold plc at hd'
  rw [show k + (d + 1) = (k + d) + 1 by omega]
  simp only [spec_l01Factors.l0]
  rw [wrap_id (x := (i : Int) + m) (by omega) (by omega), if_pos (by omega), if_pos (by omega), if_pos (by omega), wrap_id (x := (i : Int) + 1) (by omega) (by omega)]
  rw [put_ev acc _ (by omega) (k + d) (by omega)]
  try simp only [Option.bind_some]
  rw [show (i : Int) + 1 = ((i + 1 : Nat) : Int) from rfl, ih k (i + 1) _ (by omega) (by simp [ha]) (by omega)]
  rw [show ((i : Int) + (m : Int)).toNat = i + m by omega, Int.toNat_natCast]
  simp [fcsFrom]

theorem spec_factors_ev (w : ByteArray) (m : Nat) (hw : w.size ≤ 1000000) (hm : m ≤ 1000000) : Ev (fun k => spec_l01Factors.f k w (m : Int)) (fac w m) :=
 ⟨2 * w.size + 10, fun k hk => by
  have h := spec_factors_loop w m hw hm (plc w m) (k - plc w m) 0 [] (by omega) rfl (by unfold plc; omega)
  rw [show k - plc w m + plc w m = k by unfold plc; omega, canon_nil] at h
  exact h⟩

end Go.Proofs.YtfehmbifcoajeaaGreat.PF

namespace Go.Proofs.YtfehmbifcoajeaaGreat.PF
open Go.RowKit Go.Proofs.YtfehmbifcoajeaaGreatW.PrintWords Go.Proofs.YtfehmbifcoajeaaGreatW.PrintLast Go.Proofs.YtfehmbifcoajeaaGreatW.PrintMore
set_option linter.unusedVariables false
set_option linter.unusedSimpArgs false

theorem placesFor_ev (w v : ByteArray) (n : Nat) : Ev (fun k => impl_placesFor.f k w v (n : Int))
  (if codeW (v.toList != ([] : List UInt8)) [w, v] = 0 then (if (places w v).length < n then ([], 4) else (places w v, 0)) else ([], codeW (v.toList != ([] : List UInt8)) [w, v])) := by
 unfold impl_placesFor.f impl_placesFor_1.f
 simp only [wordCode_f, Option.bind_some]
 by_cases h0 : codeW (v.toList != ([] : List UInt8)) [w, v] = 0
 ·
  simp only [h0, if_true]
  refine ev_bnd (impl_places_ev w v (sz_word h0) (sz_word2 h0)) (ev_of ?_)
  by_cases h1 : (places w v).length < n
  ·
   rw [if_pos (by omega), if_pos h1]
  ·
   rw [if_neg (by omega), if_neg h1]
 ·
  simp only [h0, if_false]; exact ev_of rfl

end Go.Proofs.YtfehmbifcoajeaaGreat.PF

namespace Go.Proofs.YtfehmbifcoajeaaGreat.PF
open Go.RowKit Go.Proofs.YtfehmbifcoajeaaGreatW.PrintWords Go.Proofs.YtfehmbifcoajeaaGreatW.PrintLast Go.Proofs.YtfehmbifcoajeaaGreatW.PrintMore
set_option linter.unusedVariables false
set_option linter.unusedSimpArgs false
set_option maxRecDepth 20000

/-- The gaps between neighbours. -/
def gps : List Int → List Int
 | a :: b :: l => (b - a) :: gps (b :: l)
 | _ => []
theorem gps_length : ∀ l : List Int, (gps l).length = l.length - 1
 | [] => rfl
 | [_] => rfl
 | a :: b :: l => by simp [gps, gps_length (b :: l)]
theorem gps_drop (l : List Int) (i : Nat) (h : i + 1 < l.length) : gps (l.drop i) = (l[i + 1] - l[i]) :: gps (l.drop (i + 1)) := by
 rw [List.drop_eq_getElem_cons (by omega), List.drop_eq_getElem_cons h]
 simp [gps]
theorem gps_last (l : List Int) (i : Nat) (h : i + 1 = l.length) : gps (l.drop i) = [] := by
 rw [List.drop_eq_getElem_cons (by omega), List.drop_eq_nil_of_le (by omega)]; rfl
/-- What stands from place to next place. -/
def rws (w : ByteArray) : List Int → List ByteArray
 | a :: b :: l => w.extract a.toNat b.toNat :: rws w (b :: l)
 | _ => []
theorem rws_length (w : ByteArray) : ∀ l : List Int, (rws w l).length = l.length - 1
 | [] => rfl
 | [_] => rfl
 | a :: b :: l => by simp [rws, rws_length w (b :: l)]
theorem rws_drop (w : ByteArray) (l : List Int) (i : Nat) (h : i + 1 < l.length) : rws w (l.drop i) = w.extract l[i].toNat l[i + 1].toNat :: rws w (l.drop (i + 1)) := by
 rw [List.drop_eq_getElem_cons (by omega), List.drop_eq_getElem_cons h]
 simp [rws]
theorem rws_last (w : ByteArray) (l : List Int) (i : Nat) (h : i + 1 = l.length) : rws w (l.drop i) = [] := by
 rw [List.drop_eq_getElem_cons (by omega), List.drop_eq_nil_of_le (by omega)]; rfl
theorem rws_gap (w : ByteArray) : ∀ l : List Int, (∀ x ∈ l, 0 ≤ x ∧ x ≤ w.size) → l.Pairwise (· < ·) → ∀ x ∈ rws w l, (x.size : Int) ∈ gps l
 | [], _, _, x, hx => by cases hx
 | [_], _, _, x, hx => by cases hx
 | a :: b :: l, hin, hso, x, hx => by
  rw [rws] at hx
  rw [gps]
  rcases List.mem_cons.1 hx with rfl | hx
  ·
   have h1 := hin a (by simp)
   have h2 := hin b (by simp)
   have h3 : a < b := (List.pairwise_cons.1 hso).1 b (by simp)
   refine List.mem_cons.2 (.inl ?_)
   rw [ByteArray.size_extract]; omega
  ·
   exact List.mem_cons_of_mem _ (rws_gap w (b :: l) (fun y hy => hin y (List.mem_cons_of_mem _ hy)) (List.pairwise_cons.1 hso).2 x hx)
theorem gps_sum : ∀ (l : List Int) (h : 0 < l.length), (gps l).sum = l[l.length - 1] - l[0]
 | [a], _ => by simp [gps]
 | a :: b :: l, _ => by
  have := gps_sum (b :: l) (by simp)
  rw [gps, List.sum_cons, this]
  simp
  omega
theorem ret_loop (w : ByteArray) (l : List Int) (hl : l.length ≤ 1000000) (hin : ∀ x ∈ l, 0 ≤ x ∧ x ≤ w.size) (hso : l.Pairwise (· < ·)) : ∀ (d i : Nat) (acc : List ByteArray), i + d + 1 = l.length → acc.length = i →
  ∃ r : List ByteArray, r = canon (acc ++ rws w (l.drop i)) ∧ (∀ k, d + l.length + l.length + 10 < k → spec_ReturnWords.l0 k w l (canon acc) ((i + 1 : Nat) : Int) = some (r, 0)) ∧ (∀ k, d < k → impl_ReturnWords.l0 k w l acc ((i + 1 : Nat) : Int) = some (r, 0)) := by
 intro d
 induction d with
 | zero =>
  intro i acc hd ha
  refine ⟨canon acc, by rw [rws_last w l i (by omega), List.append_nil], fun k hk => ?_, fun k hk => ?_⟩
  ·
   obtain ⟨k, rfl⟩ : ∃ n, k = n + 1 := ⟨k - 1, by omega⟩
   simp only [spec_ReturnWords.l0]; rw [if_neg (by omega)]
  ·
   obtain ⟨k, rfl⟩ : ∃ n, k = n + 1 := ⟨k - 1, by omega⟩
   simp only [impl_ReturnWords.l0]; rw [if_neg (by omega), sorted_f (by omega)]; rfl
 | succ d ih =>
  intro i acc hd ha
  have hw : wrap64 (((i + 1 : Nat) : Int) - 1) = (i : Int) := wrap_nat (by omega) (by omega)
  have hlt : rd l (i : Int) < rd l ((i + 1 : Nat) : Int) := by
   rw [rd_nat _ _ (by omega), rd_nat _ _ (by omega)]
   exact List.pairwise_iff_getElem.1 hso i (i + 1) (by omega) (by omega) (by omega)
  have h1 : 0 ≤ rd l (i : Int) ∧ rd l (i : Int) ≤ w.size := by rw [rd_nat _ _ (by omega)]; exact hin _ (List.getElem_mem _)
  have h2 : 0 ≤ rd l ((i + 1 : Nat) : Int) ∧ rd l ((i + 1 : Nat) : Int) ≤ w.size := by rw [rd_nat _ _ (by omega)]; exact hin _ (List.getElem_mem _)
  obtain ⟨r, hr, g1, g2⟩ := ih (i + 1) (acc ++ [w.extract (rd l (i : Int)).toNat (rd l ((i + 1 : Nat) : Int)).toNat]) (by omega) (by simp [ha])
  have e1 : rd l (i : Int) = l[i] := rd_nat _ _ (by omega)
  have e2 : rd l ((i + 1 : Nat) : Int) = l[i + 1] := rd_nat _ _ (by omega)
  refine ⟨r, by rw [hr, rws_drop w l i (by omega), e1, e2]; simp, fun k hk => ?_, fun k hk => ?_⟩
  ·
   obtain ⟨k, rfl⟩ : ∃ n, k = n + 1 := ⟨k - 1, by omega⟩
   simp only [spec_ReturnWords.l0, hw]
   rw [if_pos (by omega), if_pos (by omega), if_pos (by omega), if_pos (by omega), if_pos (by omega), if_pos (by omega), if_pos (by omega), put_ev _ _ (by omega) k (by omega), wrap_succ (i := i + 1) (by omega)]
   exact g1 k (by omega)
  ·
   obtain ⟨k, rfl⟩ : ∃ n, k = n + 1 := ⟨k - 1, by omega⟩
   simp only [impl_ReturnWords.l0, hw]
   rw [if_pos (by omega), if_pos (by omega), if_pos (by omega), if_pos (by omega), if_pos (by omega), if_pos (by omega), if_pos (by omega), if_pos (by omega), wrap_succ (i := i + 1) (by omega)]
   exact g2 k (by omega)
theorem gaps_loop (l : List Int) (hl : l.length ≤ 4000000000000) (hin : ∀ x ∈ l, 0 ≤ x ∧ x ≤ 1000) : ∀ (d i : Nat) (acc : List Int), i + d + 1 = l.length → acc.length = i → ∃ r, r = acc ++ gps (l.drop i) ∧ (∀ k, d < k → spec_GapsOf.l0 k l acc ((i + 1 : Nat) : Int) = some (r, 0)) ∧ (∀ k, d < k → impl_GapsOf.l0 k l acc ((i + 1 : Nat) : Int) = some (r, 0)) := by
 intro d
 induction d with
 | zero =>
  intro i acc hd ha
  refine ⟨acc, by rw [gps_last l i (by omega), List.append_nil], fun k hk => ?_, fun k hk => ?_⟩
  ·
   obtain ⟨k, rfl⟩ : ∃ n, k = n + 1 := ⟨k - 1, by omega⟩
   simp only [spec_GapsOf.l0]; rw [if_neg (by omega)]
  ·
   obtain ⟨k, rfl⟩ : ∃ n, k = n + 1 := ⟨k - 1, by omega⟩
   simp only [impl_GapsOf.l0]; rw [if_neg (by omega)]
 | succ d ih =>
  intro i acc hd ha
  have hw : wrap64 (((i + 1 : Nat) : Int) - 1) = (i : Int) := wrap_nat (by omega) (by omega)
  obtain ⟨r, hr, h1, h2⟩ := ih (i + 1) (acc ++ [wrap64 ((rd l ((i + 1 : Nat) : Int)) - (rd l (i : Int)))]) (by omega) (by simp [ha])
  have e1 : rd l (i : Int) = l[i] := rd_nat _ _ (by omega)
  have e2 : rd l ((i + 1 : Nat) : Int) = l[i + 1] := rd_nat _ _ (by omega)
  have b1 := hin l[i] (List.getElem_mem _)
  have b2 := hin l[i + 1] (List.getElem_mem _)
  refine ⟨r, by rw [hr, gps_drop l i (by omega), e1, e2, wrap_id (by omega) (by omega)]; simp, fun k hk => ?_, fun k hk => ?_⟩
  ·
   obtain ⟨k, rfl⟩ : ∃ n, k = n + 1 := ⟨k - 1, by omega⟩
   simp only [spec_GapsOf.l0, hw]
   rw [if_pos (by omega), if_pos (by omega), if_pos (by omega), if_pos (by omega), if_pos (by omega), wrap_succ (i := i + 1) (by omega)]; exact h1 k (by omega)
  ·
   obtain ⟨k, rfl⟩ : ∃ n, k = n + 1 := ⟨k - 1, by omega⟩
   simp only [impl_GapsOf.l0, hw]
   rw [if_pos (by omega), if_pos (by omega), if_pos (by omega), if_pos (by omega), if_pos (by omega), wrap_succ (i := i + 1) (by omega)]; exact h2 k (by omega)
/-- The code of two words of which the second has letters. -/
def codR (w v : ByteArray) : Int := codeW (v.toList != ([] : List UInt8)) [w, v]
theorem plc_in (w v : ByteArray) : ∀ x ∈ places w v, 0 ≤ x ∧ x ≤ (w.size : Int) := fun x hx => by
 obtain ⟨j, h1, _, h2, _⟩ := plcs_mem w v x _ _ hx; omega
theorem returnWords_ev (w v : ByteArray) (hw : w.size ≤ 100000) (hv : v.size ≤ 100000) : ∃ r : List ByteArray × Int, r.1.length ≤ 4000000000000 ∧ (r.2 = 0 → codR w v = 0 ∧ 2 ≤ (places w v).length ∧ r.1 = canon (rws w (places w v))) ∧ Ev (fun k => spec_ReturnWords.f k w v) r ∧ Ev (fun k => impl_ReturnWords.f k w v) r := by
 unfold spec_ReturnWords.f impl_ReturnWords.f
 by_cases h0 : codeW (v.toList != ([] : List UInt8)) [w, v] = 0
 ·
  have hs := sz_word h0
  have hs2 := sz_word2 h0
  have hl := places_length w v
  have hp := placesFor_ev w v 2
  simp only [h0, if_true] at hp
  by_cases h1 : (places w v).length < 2
  ·
   simp only [h1, if_true] at hp
   refine ⟨([], 4), by simp, fun h => absurd h (by decide), ev_bnd (l05Two_ev w v (by omega) (by omega)) ?_, ev_bnd hp (ev_of (by simp))⟩
   simp only [h0, if_true]
   refine ev_bnd (spec_places_ev w v hs hs2) ?_
   simp only [show ((places w v).length : Int) < 2 by omega, if_true]; exact ev_of rfl
  ·
   simp only [h1, if_false] at hp
   obtain ⟨r, hr, g1, g2⟩ := ret_loop w (places w v) (by omega) (plc_in w v) (plcs_sorted w v _ _) ((places w v).length - 1) 0 [] (by omega) rfl
   rw [canon_nil] at g1
   rw [List.nil_append, List.drop_zero] at hr
   refine ⟨(r, 0), by show r.length ≤ _; have := canon_length_le (rws w (places w v)); have := rws_length w (places w v); rw [hr]; omega, fun _ => ⟨h0, by omega, hr⟩, ev_bnd (l05Two_ev w v (by omega) (by omega)) ?_, ev_bnd hp ?_⟩
   ·
    simp only [h0, if_true]
    refine ev_bnd (spec_places_ev w v hs hs2) ?_
    simp only [show ¬ ((places w v).length : Int) < 2 by omega, if_false]
    exact ⟨3 * (places w v).length + 100, fun k hk => g1 k (by omega)⟩
   ·
    simp only [if_true]
    exact ⟨(places w v).length + 1, fun k hk => g2 k (by omega)⟩
 ·
  have hp := placesFor_ev w v 2
  simp only [h0, if_false] at hp
  refine ⟨([], codeW (v.toList != ([] : List UInt8)) [w, v]), by simp, fun h => absurd h h0, ev_bnd (l05Two_ev w v (by omega) (by omega)) ?_, ev_bnd hp ?_⟩
  ·
   simp only [h0, if_false]; exact ev_of rfl
  ·
   simp only [h0, if_false]; exact ev_of rfl

theorem gapsOf_ev (w v : ByteArray) (hw : w.size ≤ 100000) (hv : v.size ≤ 100000) : ∃ r : List Int × Int, r.1.length ≤ 4000000000000 ∧ (codR w v = 0 → 1 ≤ (places w v).length → r = (gps (places w v), 0)) ∧ Ev (fun k => spec_GapsOf.f k w v) r ∧ Ev (fun k => impl_GapsOf.f k w v) r := by
 unfold spec_GapsOf.f impl_GapsOf.f
 by_cases h0 : codeW (v.toList != ([] : List UInt8)) [w, v] = 0
 ·
  have hs := sz_word h0
  have hs2 := sz_word2 h0
  have hl := places_length w v
  have hp := placesFor_ev w v 1
  simp only [h0, if_true] at hp
  by_cases h1 : (places w v).length < 1
  ·
   simp only [h1, if_true] at hp
   refine ⟨([], 4), by simp, fun _ h => absurd h (by omega), ev_bnd (l05Two_ev w v (by omega) (by omega)) ?_, ev_bnd hp (ev_of (by simp))⟩
   simp only [h0, if_true]
   refine ev_bnd (spec_places_ev w v hs hs2) ?_
   simp only [show ((places w v).length : Int) = 0 by omega, if_true]; exact ev_of rfl
  ·
   simp only [h1, if_false] at hp
   obtain ⟨r, hr, g1, g2⟩ := gaps_loop (places w v) (by omega) (fun x hx => by have := plc_in w v x hx; omega) ((places w v).length - 1) 0 [] (by omega) rfl
   rw [List.nil_append, List.drop_zero] at hr
   refine ⟨(r, 0), by show r.length ≤ _; have := gps_length (places w v); rw [hr]; omega, fun _ _ => by rw [hr], ev_bnd (l05Two_ev w v (by omega) (by omega)) ?_, ev_bnd hp ?_⟩
   ·
    simp only [h0, if_true]
    refine ev_bnd (spec_places_ev w v hs hs2) ?_
    simp only [show ¬ ((places w v).length : Int) = 0 by omega, if_false]
    exact ⟨(places w v).length + 1, fun k hk => g1 k (by omega)⟩
   ·
    simp only [if_true]
    exact ⟨(places w v).length + 1, fun k hk => g2 k (by omega)⟩
 ·
  have hp := placesFor_ev w v 1
  simp only [h0, if_false] at hp
  refine ⟨([], codeW (v.toList != ([] : List UInt8)) [w, v]), by simp, fun h => absurd h h0, ev_bnd (l05Two_ev w v (by omega) (by omega)) ?_, ev_bnd hp ?_⟩
  ·
   simp only [h0, if_false]; exact ev_of rfl
  ·
   simp only [h0, if_false]; exact ev_of rfl

theorem placesOf_ev {w v : ByteArray} (h1 : isW w = true) (h2 : isW v = true) : Ev (fun k => impl_PlacesOf.f k w v) (places w v, 0) := by
 have hc : codeW true [w, v] = 0 := codeW_zero.2 ⟨by simp [h1, h2], rfl⟩
 unfold impl_PlacesOf.f impl_always.f
 simp only [wordCode_f, Option.bind_some, hc, if_true]
 exact ev_bnd (impl_places_ev w v (isW_size h1) (isW_size h2)) (ev_of rfl)

end Go.Proofs.YtfehmbifcoajeaaGreat.PF

namespace Go.Proofs.YtfehmbifcoajeaaGreat.PF
open Go.RowKit Go.Proofs.YtfehmbifcoajeaaGreatW.PrintWords Go.Proofs.YtfehmbifcoajeaaGreatW.PrintLast Go.Proofs.YtfehmbifcoajeaaGreatW.PrintMore
set_option linter.unusedVariables false
set_option linter.unusedSimpArgs false
set_option maxRecDepth 20000

theorem bytes_extract (w : ByteArray) (i j : Nat) : bytesOf (w.extract i j) = ((bytesOf w).take j).drop i := by
 simp [bytesOf, ByteArray.data_extract, List.map_drop, List.map_take, List.drop_take]
theorem isW_extract {w : ByteArray} (h : isW w = true) (i j : Nat) : isW (w.extract i j) = true := by
 simp only [isW, Bool.and_eq_true, decide_eq_true_eq, List.all_eq_true] at h ⊢
 refine ⟨by rw [ByteArray.size_extract]; omega, fun x hx => h.2 x ?_⟩
 rw [bytes_extract] at hx
 exact List.mem_of_mem_take (List.mem_of_mem_drop hx)
theorem like_loop (l : List Int) (hl : l.length ≤ 4000000000000) : ∀ (d k i : Nat), i + d = l.length → d < k → laws_likeInts.l0 k l l (i : Int) = some true := by
 intro d
 induction d with
 | zero =>
  intro k i hd hk
  obtain ⟨k, rfl⟩ : ∃ m, k = m + 1 := ⟨k - 1, by omega⟩
  simp only [laws_likeInts.l0]; rw [if_neg (by omega)]
 | succ d ih =>
  intro k i hd hk
  obtain ⟨k, rfl⟩ : ∃ m, k = m + 1 := ⟨k - 1, by omega⟩
  simp only [laws_likeInts.l0]
  rw [if_pos (by omega), if_pos (by omega), if_pos (by omega), if_pos trivial, wrap_succ (by omega), ih k (i + 1) (by omega) (by omega)]
theorem like_ev (l : List Int) (hl : l.length ≤ 4000000000000) : Ev (fun k => laws_likeInts.f k l l) true :=
 ⟨l.length + 1, fun k hk => by
  have h := like_loop l hl l.length k 0 (by omega) (by omega)
  simp only [laws_likeInts.f, if_true]; exact h⟩
theorem has_loop (l : List Int) (x : Int) (hl : l.length ≤ 4000000000000) : ∀ (d k i : Nat), i + d = l.length → d < k → x ∈ l.drop i → laws_hasInt.l0 k l x (i : Int) = some true := by
 intro d
 induction d with
 | zero =>
  intro k i hd hk hx
  rw [List.drop_eq_nil_of_le (by omega)] at hx; cases hx
 | succ d ih =>
  intro k i hd hk hx
  obtain ⟨k, rfl⟩ : ∃ m, k = m + 1 := ⟨k - 1, by omega⟩
  have hi : i < l.length := by omega
  simp only [laws_hasInt.l0]
  rw [if_pos (by omega), if_pos (by omega), rd_nat l i hi, wrap_succ (by omega)]
  by_cases e : l[i] = x
  ·
   rw [if_pos e]
  ·
   rw [if_neg e]
   refine ih k (i + 1) (by omega) (by omega) ?_
   rw [List.drop_eq_getElem_cons hi] at hx
   rcases List.mem_cons.1 hx with h | h
   ·
    exact absurd h.symm e
   ·
    exact h
theorem has_ev (l : List Int) (x : Int) (hl : l.length ≤ 4000000000000) (hx : x ∈ l) : Ev (fun k => laws_hasInt.f k l x) true :=
 ⟨l.length + 1, fun k hk => has_loop l x hl l.length k 0 (by omega) (by omega) (by simpa using hx)⟩
theorem words5_loop (l : List ByteArray) (hl : l.length ≤ 4000000000000) : ∀ (d k i : Nat), i + d = l.length → d < k → laws_words5.l0 k l l (i : Int) = some true := by
 intro d
 induction d with
 | zero =>
  intro k i hd hk
  obtain ⟨k, rfl⟩ : ∃ m, k = m + 1 := ⟨k - 1, by omega⟩
  simp only [laws_words5.l0]; rw [if_neg (by omega)]
 | succ d ih =>
  intro k i hd hk
  obtain ⟨k, rfl⟩ : ∃ m, k = m + 1 := ⟨k - 1, by omega⟩
  simp only [laws_words5.l0]
  rw [if_pos (by omega), if_pos (by omega), if_pos (by omega), if_pos trivial, wrap_succ (by omega), ih k (i + 1) (by omega) (by omega)]
theorem words5_ev (l : List ByteArray) (hl : l.length ≤ 4000000000000) : Ev (fun k => laws_words5.f k l l) true :=
 ⟨l.length + 1, fun k hk => by
  have h := words5_loop l hl l.length k 0 (by omega) (by omega)
  simp only [laws_words5.f, if_true]; exact h⟩
theorem sum_loop (l : List Int) (hl : l.length ≤ 1000) (hx : ∀ x ∈ l, 0 ≤ x ∧ x ≤ 1000) : ∀ (d i : Nat) (s : Int), i + d = l.length → 0 ≤ s → s ≤ 1000 * i → ∀ k, d < k → laws_sum.l0 k l s (i : Int) = some (s + (l.drop i).sum) := by
 intro d
 induction d with
 | zero =>
  intro i s hd s0 s1 k hk
  obtain ⟨k, rfl⟩ : ∃ n, k = n + 1 := ⟨k - 1, by omega⟩
  rw [List.drop_eq_nil_of_le (by omega)]
  simp only [laws_sum.l0]; rw [if_neg (by omega)]; simp
 | succ d ih =>
  intro i s hd s0 s1 k hk
  obtain ⟨k, rfl⟩ : ∃ n, k = n + 1 := ⟨k - 1, by omega⟩
  have e1 : rd l (i : Int) = l[i] := rd_nat _ _ (by omega)
  have b1 := hx l[i] (List.getElem_mem _)
  simp only [laws_sum.l0]
  rw [if_pos (by omega), if_pos (by omega), e1, wrap_id (x := s + _) (by omega) (by omega), wrap_succ (by omega), ih (i + 1) _ (by omega) (by omega) (by omega) k (by omega), List.drop_eq_getElem_cons (i := i) (by omega), List.sum_cons]
  congr 1; omega
theorem sum_ev (l : List Int) (hl : l.length ≤ 1000) (hx : ∀ x ∈ l, 0 ≤ x ∧ x ≤ 1000) : Ev (fun k => laws_sum.f k l) l.sum :=
 ⟨l.length + 1, fun k hk => by
  have h := sum_loop l hl hx l.length 0 0 (by omega) (by omega) (by omega) k (by omega)
  rw [Int.zero_add, List.drop_zero] at h
  exact h⟩
theorem factorsOf_ev {w : ByteArray} (h : isW w = true) {m : Nat} (hm : m ≤ 60) : Ev (fun k => impl_FactorsOf.f k w (m : Int)) (fac w m, 0) := by
 have hs := isW_size h
 have h0 : codeW (inR (m : Int) 0 60) [w] = 0 := codeW_zero.2 ⟨by simp [h], inR_iff.2 ⟨by omega, by omega⟩⟩
 unfold impl_FactorsOf.f impl_FactorsOf_1.f
 simp only [isLength_f, Option.bind_some, wordCode_f, h0, if_true]
 exact ev_bnd (impl_factors_ev w m (by omega) (by omega)) (ev_of rfl)
theorem factorAt_ev {w : ByteArray} (h : isW w = true) {p m : Nat} (hm : p + m ≤ w.size) : Ev (fun k => impl_FactorAt.f k w (p : Int) (m : Int)) (w.extract p (p + m), 0) := by
 have hs := isW_size h
 have hc : impl_FactorAt_1.f (p : Int) w (m : Int) = some true := by
  unfold impl_FactorAt_1.f impl_size.f
  have r1 : inR (p : Int) 0 (w.size : Int) = true := inR_iff.2 ⟨by omega, by omega⟩
  have e1 : wrap64 ((w.size : Int) - (p : Int)) = (w.size : Int) - p := wrap_id (by omega) (by omega)
  have r2 : inR (m : Int) 0 ((w.size : Int) - (p : Int)) = true := inR_iff.2 ⟨by omega, by omega⟩
  simp only [within_f, Option.bind_some, r1, if_true, e1, r2]
 have h0 : codeW true [w] = 0 := codeW_zero.2 ⟨by simp [h], rfl⟩
 have e2 : wrap64 ((p : Int) + (m : Int)) = ((p + m : Nat) : Int) := wrap_nat (by omega) (by omega)
 unfold impl_FactorAt.f
 simp only [hc, wordCode_f, Option.bind_some, h0, if_true, e2, show (0 : Int) ≤ (p : Int) by omega, show (p : Int) ≤ ((p + m : Nat) : Int) by omega, show ((p + m : Nat) : Int) ≤ (w.size : Int) by omega, Int.toNat_natCast]
 exact ev_of rfl

end Go.Proofs.YtfehmbifcoajeaaGreat.PF

namespace Go.Proofs.YtfehmbifcoajeaaGreat.PF
open Go.RowKit Go.Proofs.YtfehmbifcoajeaaGreatW.PrintWords Go.Proofs.YtfehmbifcoajeaaGreatW.PrintLast Go.Proofs.YtfehmbifcoajeaaGreatW.PrintMore
set_option linter.unusedVariables false
set_option linter.unusedSimpArgs false

instance baLaw : LawfulBEq ByteArray where
 eq_of_beq {a b} h := by
  cases a with | mk a => cases b with | mk b =>
  have : (a == b) = true := h
  rw [eq_of_beq this]
 rfl {a} := by
  cases a with | mk a =>
  show (a == a) = true
  exact BEq.rfl

theorem index_loop (l : List ByteArray) (x : ByteArray) (hl : l.length ≤ 4000000000000) : ∀ (d k i : Nat), i + d = l.length → d < k → ∃ r, slices_Index_string_string.l0 k l x (l.length : Int) (i : Int) = some r ∧ (r ≥ 0 ↔ x ∈ l.drop i) := by
 intro d
 induction d with
 | zero =>
  intro k i hd hk
  obtain ⟨k, rfl⟩ : ∃ n, k = n + 1 := ⟨k - 1, by omega⟩
  refine ⟨-1, ?_, ?_⟩
  ·
   simp only [slices_Index_string_string.l0]; rw [if_neg (by omega)]
  ·
   rw [List.drop_eq_nil_of_le (by omega)]; simp
 | succ d ih =>
  intro k i hd hk
  obtain ⟨k, rfl⟩ : ∃ n, k = n + 1 := ⟨k - 1, by omega⟩
  have hdr : l.drop i = rdOf ByteArray.empty l (i : Int) :: l.drop (i + 1) := by rw [rdOf_nat _ _ _ (by omega), List.drop_eq_getElem_cons (by omega)]
  by_cases c : x = rdOf ByteArray.empty l (i : Int)
  ·
   refine ⟨i, ?_, ?_⟩
   ·
    simp only [slices_Index_string_string.l0]
    rw [if_pos (by omega), if_pos (by omega), if_pos (by omega), if_pos (by rw [← c])]
   ·
    rw [hdr, List.mem_cons]; exact ⟨fun _ => .inl c, fun _ => by omega⟩
  ·
   obtain ⟨r, h1, h2⟩ := ih k (i + 1) (by omega) (by omega)
   refine ⟨r, ?_, ?_⟩
   ·
    simp only [slices_Index_string_string.l0]
    rw [if_pos (by omega), if_pos (by omega), if_pos (by omega), if_neg (by rw [ba_toList_inj]; exact c), wrap_succ (by omega), h1]
   ·
    rw [h2, hdr, List.mem_cons]; exact ⟨.inr, fun h => h.elim (fun e => absurd e c) id⟩

theorem contains_f (l : List ByteArray) (x : ByteArray) (hl : l.length ≤ 4000000000000) (k : Nat) (hk : l.length < k) : slices_Contains_string_string.f k l x = some (decide (x ∈ l)) := by
 obtain ⟨r, h1, h2⟩ := index_loop l x hl l.length k 0 (by omega) (by omega)
 unfold slices_Contains_string_string.f slices_Index_string_string.f
 rw [show (0 : Int) = ((0 : Nat) : Int) from rfl, h1]
 simp only [Option.bind_some, Option.some.injEq, decide_eq_decide]
 rw [List.drop_zero] at h2; exact h2

end Go.Proofs.YtfehmbifcoajeaaGreat.PF

namespace Go.Proofs.YtfehmbifcoajeaaGreat.PF
open Go.RowKit Go.Proofs.YtfehmbifcoajeaaGreatW.PrintWords Go.Proofs.YtfehmbifcoajeaaGreatW.PrintLast Go.Proofs.YtfehmbifcoajeaaGreatW.PrintMore
set_option linter.unusedVariables false
set_option linter.unusedSimpArgs false
set_option maxRecDepth 20000

/-- Blocks in a row from a place on, all different. -/
def Blk (w : ByteArray) (m i0 : Nat) (l : List ByteArray) : Prop := l.Nodup ∧ ∀ j (h : j < l.length), i0 + j * m + m ≤ w.size ∧ l[j] = w.extract (i0 + j * m) (i0 + j * m + m)
theorem Blk.put {w : ByteArray} {m i0 : Nat} {l : List ByteArray} (h : Blk w m i0 l) (hs : i0 + l.length * m + m ≤ w.size) (hn : w.extract (i0 + l.length * m) (i0 + l.length * m + m) ∉ l) : Blk w m i0 (l ++ [w.extract (i0 + l.length * m) (i0 + l.length * m + m)]) := by
 refine ⟨List.nodup_append.2 ⟨h.1, by simp, fun a ha b hb e => hn (by rw [List.mem_singleton] at hb; rw [← hb, ← e]; exact ha)⟩, fun j hj => ?_⟩
 rw [List.length_append, List.length_singleton] at hj
 by_cases e : j < l.length
 ·
  rw [List.getElem_append_left e]; exact h.2 j e
 ·
  obtain rfl : j = l.length := by omega
  refine ⟨hs, ?_⟩
  rw [List.getElem_append_right (by omega)]; simp
theorem number_loop (l : List ByteArray) (x : ByteArray) (hl : l.length ≤ 4000000000000) : ∀ (d k i : Nat), i + d = l.length → d < k → ∃ r, spec_l05Number.l0 k l x (i : Int) = some r ∧ (r < 0 ↔ ¬ x ∈ l.drop i) := by
 intro d
 induction d with
 | zero =>
  intro k i hd hk
  obtain ⟨k, rfl⟩ : ∃ n, k = n + 1 := ⟨k - 1, by omega⟩
  refine ⟨-1, ?_, ?_⟩
  ·
   simp only [spec_l05Number.l0]; rw [if_neg (by omega)]
  ·
   rw [List.drop_eq_nil_of_le (by omega)]; simp
 | succ d ih =>
  intro k i hd hk
  obtain ⟨k, rfl⟩ : ∃ n, k = n + 1 := ⟨k - 1, by omega⟩
  have hdr : l.drop i = rdOf ByteArray.empty l (i : Int) :: l.drop (i + 1) := by rw [rdOf_nat _ _ _ (by omega), List.drop_eq_getElem_cons (by omega)]
  by_cases c : rdOf ByteArray.empty l (i : Int) = x
  ·
   refine ⟨i, ?_, ?_⟩
   ·
    simp only [spec_l05Number.l0]
    rw [if_pos (by omega), if_pos (by omega), if_pos (by rw [c])]
   ·
    rw [hdr, List.mem_cons]; exact ⟨fun _ => by omega, fun h => absurd (.inl c.symm) h⟩
  ·
   obtain ⟨r, h1, h2⟩ := ih k (i + 1) (by omega) (by omega)
   refine ⟨r, ?_, ?_⟩
   ·
    simp only [spec_l05Number.l0]
    rw [if_pos (by omega), if_pos (by omega), if_neg (by rw [ba_toList_inj]; exact c), wrap_succ (by omega), h1]
   ·
    rw [h2, hdr, List.mem_cons]; exact ⟨fun h e => e.elim (fun e => c e.symm) h, fun h e => h (.inr e)⟩
theorem number_f (l : List ByteArray) (x : ByteArray) (hl : l.length ≤ 4000000000000) (k : Nat) (hk : l.length < k) : ∃ r, spec_l05Number.f k l x = some r ∧ (r < 0 ↔ ¬ x ∈ l) := by
 obtain ⟨r, h1, h2⟩ := number_loop l x hl l.length k 0 (by omega) (by omega)
 exact ⟨r, h1, by rw [List.drop_zero] at h2; exact h2⟩
theorem anti_loop (w : ByteArray) (hw : w.size ≤ 60) (m : Nat) (h1 : 1 ≤ m) (hm : m ≤ 60) : ∀ (d i : Nat) (acc : List ByteArray) (i0 : Nat), w.size ≤ i + d → i ≤ 200 → acc.length ≤ i → i = i0 + acc.length * m → Blk w m i0 acc →
  ∃ r : Nat, (∃ l, Blk w m i0 l ∧ l.length = r) ∧ (∀ k, 200 + d < k → spec_l05Anti.l0 k w (i : Int) (m : Int) acc = some (r : Int)) ∧ (∀ k, 200 + d < k → impl_antipower.l0 k w (i : Int) (m : Int) acc = some (r : Int)) ∧ (w.size < i + m → r = acc.length) := by
 intro d
 induction d with
 | zero =>
  intro i acc i0 hd hi ha h0 hB
  refine ⟨acc.length, ⟨acc, hB, rfl⟩, fun k hk => ?_, fun k hk => ?_, fun _ => rfl⟩
  ·
   obtain ⟨k, rfl⟩ : ∃ n, k = n + 1 := ⟨k - 1, by omega⟩
   simp only [spec_l05Anti.l0]; rw [wrap_nat (n := i + m) (by omega) (by omega), if_neg (by omega)]
  ·
   obtain ⟨k, rfl⟩ : ∃ n, k = n + 1 := ⟨k - 1, by omega⟩
   simp only [impl_antipower.l0]; rw [wrap_nat (n := i + m) (by omega) (by omega), if_neg (by omega)]
 | succ d ih =>
  intro i acc i0 hd hi ha h0 hB
  by_cases hs : i + m ≤ w.size
  ·
   by_cases c : w.extract i (i + m) ∈ acc
   ·
    refine ⟨acc.length, ⟨acc, hB, rfl⟩, fun k hk => ?_, fun k hk => ?_, fun h => by omega⟩
    ·
     obtain ⟨k, rfl⟩ : ∃ n, k = n + 1 := ⟨k - 1, by omega⟩
     obtain ⟨t, t1, t2⟩ := number_f acc (w.extract i (i + m)) (by omega) k (by omega)
     simp only [spec_l05Anti.l0]
     rw [wrap_nat (n := i + m) (by omega) (by omega), if_pos (by omega), if_pos (by omega), if_pos (by omega), Int.toNat_natCast, Int.toNat_natCast, t1]
     simp only [Option.bind_some]
     rw [if_neg (fun h => t2.1 h c)]
    ·
     obtain ⟨k, rfl⟩ : ∃ n, k = n + 1 := ⟨k - 1, by omega⟩
     simp only [impl_antipower.l0]
     rw [wrap_nat (n := i + m) (by omega) (by omega), if_pos (by omega), if_pos (by omega), if_pos (by omega), Int.toNat_natCast, Int.toNat_natCast, contains_f acc _ (by omega) k (by omega)]
     simp only [Option.bind_some, c, decide_true, if_true]
   ·
    obtain ⟨r, g0, g1, g2, _⟩ := ih (i + m) (acc ++ [w.extract i (i + m)]) i0 (by omega) (by omega) (by simp; omega) (by simp only [List.length_append, List.length_singleton, Nat.add_mul]; omega) (by rw [h0] at c hs ⊢; exact hB.put hs c)
    refine ⟨r, g0, fun k hk => ?_, fun k hk => ?_, fun h => by omega⟩
    ·
     obtain ⟨k, rfl⟩ : ∃ n, k = n + 1 := ⟨k - 1, by omega⟩
     obtain ⟨t, t1, t2⟩ := number_f acc (w.extract i (i + m)) (by omega) k (by omega)
     simp only [spec_l05Anti.l0]
     rw [wrap_nat (n := i + m) (by omega) (by omega), if_pos (by omega), if_pos (by omega), if_pos (by omega), Int.toNat_natCast, Int.toNat_natCast, t1]
     simp only [Option.bind_some]
     rw [if_pos (t2.2 c), if_pos (by omega)]
     exact g1 k (by omega)
    ·
     obtain ⟨k, rfl⟩ : ∃ n, k = n + 1 := ⟨k - 1, by omega⟩
     simp only [impl_antipower.l0]
     rw [wrap_nat (n := i + m) (by omega) (by omega), if_pos (by omega), if_pos (by omega), if_pos (by omega), Int.toNat_natCast, Int.toNat_natCast, contains_f acc _ (by omega) k (by omega)]
     simp only [Option.bind_some, c, decide_false, Bool.false_eq_true, if_false]
     rw [if_pos (by omega)]
     exact g2 k (by omega)
  ·
   refine ⟨acc.length, ⟨acc, hB, rfl⟩, fun k hk => ?_, fun k hk => ?_, fun _ => rfl⟩
   ·
    obtain ⟨k, rfl⟩ : ∃ n, k = n + 1 := ⟨k - 1, by omega⟩
    simp only [spec_l05Anti.l0]; rw [wrap_nat (n := i + m) (by omega) (by omega), if_neg (by omega)]
   ·
    obtain ⟨k, rfl⟩ : ∃ n, k = n + 1 := ⟨k - 1, by omega⟩
    simp only [impl_antipower.l0]; rw [wrap_nat (n := i + m) (by omega) (by omega), if_neg (by omega)]
/-- From a place on where no block fits, the program changes nothing. -/
theorem anti_tail (w : ByteArray) (hw : w.size ≤ 60) (m : Nat) (h1 : 1 ≤ m) (hm : m ≤ 60) : ∀ (d k i : Nat) (b c : Nat), i + d = w.size → w.size < i + m → 1000 + d < k →
  impl_LongestAntipower.l0 k w (b : Int) (c : Int) (w.size : Int) (i : Int) (m : Int) = some (if c = 0 then (0, 0, 4) else ((b : Int), (c : Int), 0)) := by
 intro d
 induction d with
 | zero =>
  intro k i b c hd hs hk
  obtain ⟨k, rfl⟩ : ∃ n, k = n + 1 := ⟨k - 1, by omega⟩
  simp only [impl_LongestAntipower.l0]
  rw [if_neg (by omega)]
  by_cases h : c = 0
  ·
   rw [if_pos (by omega), if_pos h]
  ·
   rw [if_neg (by omega), if_neg h]
 | succ d ih =>
  intro k i b c hd hs hk
  obtain ⟨k, rfl⟩ : ∃ n, k = n + 1 := ⟨k - 1, by omega⟩
  obtain ⟨r, _, _, g2, g3⟩ := anti_loop w hw m h1 hm w.size i [] i (by omega) (by omega) (by simp) (by simp) ⟨by simp, by simp⟩
  have g4 := g3 hs
  simp only [impl_LongestAntipower.l0]
  unfold impl_antipower.f
  rw [if_pos (by omega), g2 k (by omega)]
  simp only [Option.bind_some]
  rw [if_neg (by simp only [List.length_nil] at g4; omega), wrap_succ (by omega), ih k (i + 1) b c (by omega) (by omega) (by omega)]
theorem anti_end {w : ByteArray} {m b c : Nat} (h : c = 0 ∨ ∃ l, Blk w m b l ∧ l.length = c) : (if c = 0 then ((0 : Int), (0 : Int), (4 : Int)) else ((b : Int), (c : Int), 0)).2.2 = 0 → ∃ (b' : Nat) (l : List ByteArray), (if c = 0 then ((0 : Int), (0 : Int), (4 : Int)) else ((b : Int), (c : Int), 0)).1 = b' ∧ (if c = 0 then ((0 : Int), (0 : Int), (4 : Int)) else ((b : Int), (c : Int), 0)).2.1 = (l.length : Int) ∧ Blk w m b' l := by
 by_cases e : c = 0
 ·
  simp only [e, if_true]; intro h; exact absurd h (by decide)
 ·
  simp only [e, if_false]
  intro _
  obtain ⟨l, h1, h2⟩ := h.resolve_left e
  exact ⟨b, l, rfl, by rw [h2], h1⟩
theorem anti_all (w : ByteArray) (hw : w.size ≤ 60) (m : Nat) (h1 : 1 ≤ m) (hm : m ≤ 60) : ∀ (d i : Nat) (b c : Nat), i + d = w.size → (c = 0 ∨ ∃ l, Blk w m b l ∧ l.length = c) → ∃ r : Int × Int × Int, (r.2.2 = 0 → ∃ (b : Nat) (l : List ByteArray), r.1 = b ∧ r.2.1 = (l.length : Int) ∧ Blk w m b l) ∧ (∀ k, 1000 + d < k → spec_LongestAntipower.l0 k w (m : Int) (b : Int) (c : Int) (i : Int) = some r) ∧ (∀ k, 1000 + d < k → impl_LongestAntipower.l0 k w (b : Int) (c : Int) (w.size : Int) (i : Int) (m : Int) = some r) := by
 intro d
 induction d with
 | zero =>
  intro i b c hd hB
  refine ⟨if c = 0 then (0, 0, 4) else ((b : Int), (c : Int), 0), anti_end hB, fun k hk => ?_, fun k hk => anti_tail w hw m h1 hm 0 k i b c hd (by omega) hk⟩
  obtain ⟨k, rfl⟩ : ∃ n, k = n + 1 := ⟨k - 1, by omega⟩
  simp only [spec_LongestAntipower.l0]
  rw [wrap_nat (n := i + m) (by omega) (by omega), if_neg (by omega)]
  by_cases h : c = 0
  ·
   rw [if_pos (by omega), if_pos h]
  ·
   rw [if_neg (by omega), if_neg h]
 | succ d ih =>
  intro i b c hd hB
  by_cases hs : i + m ≤ w.size
  ·
   obtain ⟨r, g0, g1, g2, _⟩ := anti_loop w hw m h1 hm w.size i [] i (by omega) (by omega) (by simp) (by simp) ⟨by simp, by simp⟩
   by_cases hr : c < r
   ·
    obtain ⟨q, q0, q1, q2⟩ := ih (i + 1) i r (by omega) (.inr g0)
    refine ⟨q, q0, fun k hk => ?_, fun k hk => ?_⟩
    ·
     obtain ⟨k, rfl⟩ : ∃ n, k = n + 1 := ⟨k - 1, by omega⟩
     simp only [spec_LongestAntipower.l0]
     unfold spec_l05Anti.f
     rw [wrap_nat (n := i + m) (by omega) (by omega), if_pos (by omega), g1 k (by omega)]
     simp only [Option.bind_some]
     rw [if_pos (by omega), wrap_succ (by omega), q1 k (by omega)]
    ·
     obtain ⟨k, rfl⟩ : ∃ n, k = n + 1 := ⟨k - 1, by omega⟩
     simp only [impl_LongestAntipower.l0]
     unfold impl_antipower.f
     rw [if_pos (by omega), g2 k (by omega)]
     simp only [Option.bind_some]
     rw [if_pos (by omega), wrap_succ (by omega), q2 k (by omega)]
   ·
    obtain ⟨q, q0, q1, q2⟩ := ih (i + 1) b c (by omega) hB
    refine ⟨q, q0, fun k hk => ?_, fun k hk => ?_⟩
    ·
     obtain ⟨k, rfl⟩ : ∃ n, k = n + 1 := ⟨k - 1, by omega⟩
     simp only [spec_LongestAntipower.l0]
     unfold spec_l05Anti.f
     rw [wrap_nat (n := i + m) (by omega) (by omega), if_pos (by omega), g1 k (by omega)]
     simp only [Option.bind_some]
     rw [if_neg (by omega), wrap_succ (by omega), q1 k (by omega)]
    ·
     obtain ⟨k, rfl⟩ : ∃ n, k = n + 1 := ⟨k - 1, by omega⟩
     simp only [impl_LongestAntipower.l0]
     unfold impl_antipower.f
     rw [if_pos (by omega), g2 k (by omega)]
     simp only [Option.bind_some]
     rw [if_neg (by omega), wrap_succ (by omega), q2 k (by omega)]
  ·
   refine ⟨if c = 0 then (0, 0, 4) else ((b : Int), (c : Int), 0), anti_end hB, fun k hk => ?_, fun k hk => anti_tail w hw m h1 hm (d + 1) k i b c hd (by omega) hk⟩
   obtain ⟨k, rfl⟩ : ∃ n, k = n + 1 := ⟨k - 1, by omega⟩
   simp only [spec_LongestAntipower.l0]
   rw [wrap_nat (n := i + m) (by omega) (by omega), if_neg (by omega)]
   by_cases h : c = 0
   ·
    rw [if_pos (by omega), if_pos h]
   ·
    rw [if_neg (by omega), if_neg h]
theorem antipower_ev (w : ByteArray) (m : Int) (hw : w.size ≤ 100000) : ∃ r : Int × Int × Int, (r.2.2 = 0 → isW w = true ∧ ∃ (n b : Nat) (l : List ByteArray), m = n ∧ 1 ≤ n ∧ r.1 = b ∧ r.2.1 = (l.length : Int) ∧ Blk w n b l) ∧ Ev (fun k => spec_LongestAntipower.f k w m) r ∧ Ev (fun k => impl_LongestAntipower.f k w m) r := by
 unfold spec_LongestAntipower.f impl_LongestAntipower.f impl_LongestAntipower_1.f
 simp only [within_f, Option.bind_some, wordCode_f]
 have hsp : ∀ r, Ev (fun k => if codeW (inR m 1 60) [w] = 0 then spec_LongestAntipower.l0 k w m 0 0 0 else some (0, 0, codeW (inR m 1 60) [w])) r → Ev (fun k => (spec_l05Code.f k w m).bind fun t176 => if t176 = 0 then spec_LongestAntipower.j0 k w m t176 (decide (m < 1)) else spec_LongestAntipower.j0 k w m t176 false) r := by
  intro r hr
  refine ev_bnd (l05Code_ev w _ (by omega)) ?_
  have hj : ∀ (x : Int) (b : Bool), (if b = true then 2 else x) = codeW (inR m 1 60) [w] → Ev (fun k => spec_LongestAntipower.j0 k w m x b) r := by
   intro x b hx
   refine ev_suc ?_
   simp only [spec_LongestAntipower.j0]
   cases b
   ·
    simp only [Bool.false_eq_true, if_false] at hx ⊢
    refine ev_suc ?_
    simp only [spec_LongestAntipower.j1, hx]; exact hr
   ·
    simp only [if_true] at hx ⊢
    refine ev_suc ?_
    simp only [spec_LongestAntipower.j1, hx]; exact hr
  by_cases h1 : isW w = true
  ·
   by_cases h2 : inR m 0 60 = true
   ·
    have h0 : codeW (inR m 0 60) [w] = 0 := codeW_zero.2 ⟨by simp [h1], h2⟩
    simp only [h0, if_true]
    refine hj _ _ ?_
    have h3 := inR_iff.1 h2
    by_cases h4 : m < 1
    ·
     have : inR m 1 60 = false := by simp [inR]; omega
     simp [codeW, h1, h4, this]
    ·
     have : inR m 1 60 = true := by simp [inR]; omega
     simp [codeW, h1, h4, this]
   ·
    have h0 : codeW (inR m 0 60) [w] = 2 := by simp [codeW, h1, h2]
    have : inR m 1 60 = false := by
     have h5 : ¬ (0 ≤ m ∧ m ≤ 60) := fun h => h2 (inR_iff.2 h)
     simp [inR]; omega
    simp only [h0, show ¬ ((2 : Int) = 0) by omega, if_false]
    refine hj _ _ ?_
    simp [codeW, h1, this]
  ·
   have h0 : codeW (inR m 0 60) [w] = 1 := by simp [codeW, h1]
   simp only [h0, show ¬ ((1 : Int) = 0) by omega, if_false]
   refine hj _ _ ?_
   simp [codeW, h1]
 by_cases h0 : codeW (inR m 1 60) [w] = 0
 ·
  obtain ⟨n, rfl, hn0, hn⟩ := range_nat h0 (by omega)
  have hs := sz_word h0
  have hw1 : isW w = true := by have := (codeW_zero.1 h0).1; simpa using this
  obtain ⟨r, g0, g1, g2⟩ := anti_all w hs n (by omega) (by omega) w.size 0 0 0 (by omega) (.inl rfl)
  refine ⟨r, fun h => ⟨hw1, ?_⟩, hsp r ?_, ?_⟩
  ·
   obtain ⟨b, l, k1, k2, k3⟩ := g0 h
   exact ⟨n, b, l, rfl, by omega, k1, k2, k3⟩
  ·
   simp only [h0, if_true]; exact ⟨1001 + w.size, fun k hk => g1 k (by omega)⟩
  ·
   simp only [h0, if_true]; exact ⟨1001 + w.size, fun k hk => g2 k (by omega)⟩
 ·
  refine ⟨(0, 0, codeW (inR m 1 60) [w]), fun h => absurd h h0, hsp _ ?_, ?_⟩
  ·
   simp only [h0, if_false]; exact ev_of rfl
  ·
   simp only [h0, if_false]; exact ev_of rfl

end Go.Proofs.YtfehmbifcoajeaaGreat.PF

namespace Go.Proofs.YtfehmbifcoajeaaGreat.PF
open Go.RowKit Go.Proofs.YtfehmbifcoajeaaGreatW.PrintWords Go.Proofs.YtfehmbifcoajeaaGreatW.PrintLast Go.Proofs.YtfehmbifcoajeaaGreatW.PrintMore
set_option linter.unusedVariables false
set_option linter.unusedSimpArgs false
set_option maxRecDepth 20000

/-- Does a word stand in another one? -/
def hasB (u x : ByteArray) : Bool := Lib.contains u.data.toList x.data.toList

theorem occ_iff (u x : ByteArray) (j : Nat) (hj : j ≤ u.size) : Lib.occAt u.data.toList x.data.toList j = true ↔ j + x.size ≤ u.size ∧ u.extract j (j + x.size) = x := by
 unfold Lib.occAt
 rw [List.isPrefixOf_iff_prefix, List.prefix_iff_eq_take]
 have hl : (u.data.toList.drop j).length = u.size - j := by rw [List.length_drop, Array.length_toList]; rfl
 have hv : x.data.toList.length = x.size := by rw [Array.length_toList]; rfl
 have key : (u.extract j (j + x.size)).data.toList = (u.data.toList.drop j).take x.data.toList.length := by
  rw [hv]
  simp only [ByteArray.data_extract, Array.toList_extract, List.extract_eq_take_drop]
  congr 1; omega
 constructor
 ·
  intro h
  have hle : j + x.size ≤ u.size := by
   have := congrArg List.length h
   rw [List.length_take, hl, hv] at this; omega
  exact ⟨hle, ba_ext (by rw [key, ← h])⟩
 ·
  rintro ⟨hle, h⟩
  rw [← key, h]

theorem hasB_iff (u x : ByteArray) : hasB u x = true ↔ ∃ j, j + x.size ≤ u.size ∧ u.extract j (j + x.size) = x := by
 unfold hasB Lib.contains
 rw [decide_eq_true_eq]
 have hl : u.data.toList.length = u.size := by rw [Array.length_toList]; rfl
 rcases Lib.index_spec u.data.toList x.data.toList with ⟨h1, h2⟩ | ⟨i, h1, h2, h3, _⟩
 ·
  rw [h1]
  constructor
  ·
   intro h; omega
  ·
   rintro ⟨j, hj1, hj2⟩
   have := h2 j (by rw [hl]; omega)
   rw [(occ_iff u x j (by omega)).2 ⟨hj1, hj2⟩] at this; cases this
 ·
  rw [h1]
  exact ⟨fun _ => ⟨i, (occ_iff u x i (by rw [← hl]; exact h2)).1 h3⟩, fun _ => by omega⟩

theorem plcs_of (w v : ByteArray) (j : Nat) (h : j + v.size ≤ w.size ∧ w.extract j (j + v.size) = v) : ∀ d i, i ≤ j → j < i + d → (j : Int) ∈ plcs w v d i
 | 0, i, h1, h2 => by omega
 | d + 1, i, h1, h2 => by
  rw [plcs]
  by_cases e : i = j
  ·
   subst e; rw [if_pos h]; exact List.mem_cons_self
  ·
   have := plcs_of w v j h d (i + 1) (by omega) (by omega)
   split
   ·
    exact List.mem_cons_of_mem _ this
   ·
    exact this
theorem places_pos (u x : ByteArray) : 0 < (places u x).length ↔ hasB u x = true := by
 rw [hasB_iff]
 constructor
 ·
  intro h
  have hm := List.getElem_mem h
  obtain ⟨j, h1, h2, h3, h4⟩ := plcs_mem u x _ _ _ hm
  exact ⟨j, h3, h4⟩
 ·
  rintro ⟨j, h1, h2⟩
  exact List.length_pos_of_mem (plcs_of u x j ⟨h1, h2⟩ (u.size + 1) 0 (Nat.zero_le _) (by omega))

end Go.Proofs.YtfehmbifcoajeaaGreat.PF

namespace Go.Proofs.YtfehmbifcoajeaaGreat.PF
open Go.RowKit Go.Proofs.YtfehmbifcoajeaaGreatW.PrintWords Go.Proofs.YtfehmbifcoajeaaGreatW.PrintLast Go.Proofs.YtfehmbifcoajeaaGreatW.PrintMore
set_option linter.unusedVariables false
set_option linter.unusedSimpArgs false
set_option maxRecDepth 20000

theorem allP_mem {α : Type} (p : α → Option Bool) (q : α → Bool) : ∀ l : List α, (∀ x ∈ l, p x = some (q x)) → allP p l = some (l.all q)
 | [], _ => rfl
 | x :: l, h => by
  rw [allP, h x List.mem_cons_self, List.all_cons]
  simp only [Option.bind_some]
  cases q x with
  | true => rw [if_pos rfl, allP_mem p q l fun y hy => h y (List.mem_cons_of_mem _ hy), Bool.true_and]
  | false => rw [if_neg (by decide), Bool.false_and]

theorem fac_size' (w : ByteArray) (m : Nat) : ∀ x ∈ fac w m, x.size = m ∧ x.size ≤ w.size := fun x hx => by
 obtain ⟨j, h1, rfl⟩ := (mem_fac w m x).1 hx
 rw [ByteArray.size_extract]; omega

/-- Does each factor of length n have all of some words? -/
def wholeB (w : ByteArray) (n : Nat) (ws : List ByteArray) : Bool := (fac w n).all fun v => ws.all (hasB v)

theorem impl_whole (w : ByteArray) (hw : w.size ≤ 60) (n : Nat) (ws : List ByteArray) (k : Nat) : impl_areAll_string.f k (fac w n) (fun z0_ => impl_WindowOf_2.f k z0_ ws) = some (wholeB w n ws) := by
 unfold impl_areAll_string.f wholeB
 refine allP_mem _ _ _ fun v hv => ?_
 have hs := (fac_size' w n v hv).2
 unfold impl_WindowOf_2.f impl_hasAll.f
 rw [allP_mem _ (hasB v) ws fun x hx => by unfold strings_Contains.f; rw [if_pos (by omega)]; rfl]
 rfl

def allUp (F : Nat → Bool) : Nat → Nat → Bool
 | 0, _ => true
 | d + 1, i => F i && allUp F d (i + 1)
theorem allUp_iff (F : Nat → Bool) : ∀ d i, allUp F d i = true ↔ ∀ j, i ≤ j → j < i + d → F j = true
 | 0, i => by
  constructor
  ·
   intro _ j h1 h2; omega
  ·
   intro _; rfl
 | d + 1, i => by
  rw [allUp, Bool.and_eq_true, allUp_iff F d (i + 1)]
  constructor
  ·
   rintro ⟨h1, h2⟩ j h3 h4
   by_cases e : j = i
   ·
    rw [e]; exact h1
   ·
    exact h2 j (by omega) (by omega)
  ·
   intro h
   exact ⟨h i (Nat.le_refl _) (by omega), fun j h1 h2 => h j (by omega) (by omega)⟩

theorem whole_up (w : ByteArray) (n : Nat) (ws : List ByteArray) : allUp (fun i => ws.all (hasB (w.extract i (i + n)))) (plc w n) 0 = wholeB w n ws := by
 rw [Bool.eq_iff_iff, allUp_iff]
 unfold wholeB
 rw [List.all_eq_true]
 constructor
 ·
  intro h v hv
  obtain ⟨j, h1, rfl⟩ := (mem_fac w n v).1 hv
  exact h j (Nat.zero_le _) (by unfold plc; omega)
 ·
  intro h j _ h2
  unfold plc at h2
  exact h _ ((mem_fac w n _).2 ⟨j, by omega, rfl⟩)

theorem spec_w1 (w : ByteArray) (hw : w.size ≤ 60) (n : Nat) (ws : List ByteArray) (hl : ws.length ≤ 1000) (hls : ∀ x ∈ ws, x.size ≤ 60) (i : Nat) (hi : i + n ≤ w.size) : ∀ (d k j : Nat), j + d = ws.length → 100 < k →
  spec_l05Whole.l1 (k + d + 1) w (n : Int) ws (i : Int) (j : Int) = (if (ws.drop j).all (hasB (w.extract i (i + n))) = true then spec_l05Whole.l0 k w (n : Int) ws ((i + 1 : Nat) : Int) else some false) := by
 have hv : (w.extract i (i + n)).size ≤ 60 := by rw [ByteArray.size_extract]; omega
 have a4 : (0 : Int) ≤ (i : Int) := by omega
 have a5 : (i : Int) ≤ ((i + n : Nat) : Int) := by omega
 have a6 : ((i + n : Nat) : Int) ≤ (w.size : Int) := by omega
 have a7 : i < 4611686018427387904 := by omega
 have a8 : i + n ≤ 4611686018427387904 := by omega
 intro d
 induction d with
 | zero =>
  intro k j hd hk
  have a1 : ¬ (j : Int) < (ws.length : Int) := by omega
  simp only [spec_l05Whole.l1]
  rw [if_neg a1, List.drop_eq_nil_of_le (by omega), List.all_nil, if_pos rfl, show wrap64 ((i : Int) + 1) = ((i + 1 : Nat) : Int) from wrap_succ a7]
 | succ d ih =>
  intro k j hd hk
  obtain ⟨q, hq⟩ : ∃ q, q = k + d + 1 := ⟨_, rfl⟩
  have hj : j < ws.length := by omega
  have hih := ih k (j + 1) (by omega) hk
  have a1 : (j : Int) < (ws.length : Int) := by omega
  have a2 : (0 : Int) ≤ (j : Int) := by omega
  have a3 : j < 4611686018427387904 := by omega
  have hpl : spec_l01Places.f q (w.extract i (i + n)) ws[j] = some (places (w.extract i (i + n)) ws[j]) := by
   have h := spec_places_loop (w.extract i (i + n)) ws[j] hv (hls _ (List.getElem_mem hj)) ((w.extract i (i + n)).size + 1) q 0 [] (by omega) (by simp) (by omega)
   exact h
  have hpp := places_pos (w.extract i (i + n)) ws[j]
  rw [← hq] at hih
  rw [show k + (d + 1) + 1 = q + 1 by rw [hq]; rfl]
  simp only [spec_l05Whole.l1]
  rw [show wrap64 ((i : Int) + (n : Int)) = ((i + n : Nat) : Int) from wrap_nat rfl a8, if_pos a1, if_pos a4, if_pos a5, if_pos a6, if_pos a2, Int.toNat_natCast, Int.toNat_natCast, rdOf_nat _ ws j hj, hpl, List.drop_eq_getElem_cons hj, List.all_cons]
  simp only [Option.bind_some]
  by_cases c : hasB (w.extract i (i + n)) ws[j] = true
  ·
   have := hpp.2 c
   rw [if_neg (show ¬ ((places (w.extract i (i + n)) ws[j]).length : Int) = 0 by omega), show wrap64 ((j : Int) + 1) = ((j + 1 : Nat) : Int) from wrap_succ a3, hih, c, Bool.true_and]
  ·
   have c' : hasB (w.extract i (i + n)) ws[j] = false := by simpa using c
   have : ¬ 0 < (places (w.extract i (i + n)) ws[j]).length := fun h => c (hpp.1 h)
   rw [if_pos (show ((places (w.extract i (i + n)) ws[j]).length : Int) = 0 by omega), c', Bool.false_and, if_neg (by decide)]

theorem spec_w0 (w : ByteArray) (hw : w.size ≤ 60) (n : Nat) (hn : n ≤ 100) (ws : List ByteArray) (hl : ws.length ≤ 100) (hls : ∀ x ∈ ws, x.size ≤ 60) : ∀ (d k i : Nat), i + d = plc w n → d * 110 + 200 < k →
  spec_l05Whole.l0 k w (n : Int) ws (i : Int) = some (allUp (fun i => ws.all (hasB (w.extract i (i + n)))) d i) := by
 intro d
 induction d with
 | zero =>
  intro k i hd hk
  obtain ⟨k, rfl⟩ : ∃ q, k = q + 1 := ⟨k - 1, by omega⟩
  unfold plc at hd
  have a1 : ¬ ((i + n : Nat) : Int) ≤ (w.size : Int) := by omega
  have a8 : i + n ≤ 4611686018427387904 := by omega
  simp only [spec_l05Whole.l0]
  rw [show wrap64 ((i : Int) + (n : Int)) = ((i + n : Nat) : Int) from wrap_nat rfl a8, if_neg a1]; rfl
 | succ d ih =>
  intro k i hd hk
  have hd' := hd
  unfold plc at hd'
  obtain ⟨k, rfl⟩ : ∃ q, k = (q + ws.length + 1) + 1 := ⟨k - ws.length - 2, by omega⟩
  obtain ⟨q, hq⟩ : ∃ q, q = k + ws.length + 1 := ⟨_, rfl⟩
  have h1 := spec_w1 w hw n ws (by omega) hls i (by omega) ws.length k 0 (by omega) (by omega)
  have hih := ih k (i + 1) (by omega) (by omega)
  have a1 : ((i + n : Nat) : Int) ≤ (w.size : Int) := by omega
  have a8 : i + n ≤ 4611686018427387904 := by omega
  rw [← hq] at h1 ⊢
  simp only [spec_l05Whole.l0]
  rw [show wrap64 ((i : Int) + (n : Int)) = ((i + n : Nat) : Int) from wrap_nat rfl a8, if_pos a1, show (0 : Int) = ((0 : Nat) : Int) from rfl, h1, List.drop_zero, hih, allUp]
  cases ws.all (hasB (w.extract i (i + n))) with
  | true => rw [if_pos rfl, Bool.true_and]
  | false => rw [if_neg (by decide), Bool.false_and]

theorem spec_whole (w : ByteArray) (hw : w.size ≤ 60) (n : Nat) (hn : n ≤ 100) (ws : List ByteArray) (hl : ws.length ≤ 100) (hls : ∀ x ∈ ws, x.size ≤ 60) (k : Nat) (hk : 8000 < k) : spec_l05Whole.f k w (n : Int) ws = some (wholeB w n ws) := by
 have hp : plc w n ≤ 61 := by unfold plc; omega
 have h := spec_w0 w hw n hn ws hl hls (plc w n) k 0 (by omega) (by omega)
 rw [whole_up] at h
 exact h

/-- The window: the first length from n on. -/
def winF (w : ByteArray) (ws : List ByteArray) : Nat → Nat → Nat
 | 0, n => n
 | d + 1, n => if wholeB w n ws = true then n else winF w ws d (n + 1)

theorem whole_last (w : ByteArray) (m : Nat) : wholeB w w.size (fac w m) = true := by
 unfold wholeB
 rw [List.all_eq_true]
 intro v hv
 obtain ⟨j, h1, rfl⟩ := (mem_fac w w.size v).1 hv
 obtain rfl : j = 0 := by omega
 rw [List.all_eq_true]
 intro x hx
 obtain ⟨j, h2, rfl⟩ := (mem_fac w m x).1 hx
 have hs : (w.extract j (j + m)).size = m := by rw [ByteArray.size_extract]; omega
 have hw0 : w.extract 0 (0 + w.size) = w := by rw [Nat.zero_add]; exact ByteArray.extract_zero_size
 rw [hw0]
 exact (hasB_iff w _).2 ⟨j, by omega, by rw [hs]⟩

theorem impl_win (w : ByteArray) (hw : w.size ≤ 60) (m : Nat) : ∀ (d k n : Nat), n + d = w.size → d + 200 < k → impl_WindowOf.l0 k w (n : Int) (fac w m) = some (((winF w (fac w m) d n : Nat) : Int), (0 : Int)) := by
 have hfac : ∀ (q n : Nat), n ≤ 100 → 100 < q → impl_factors.f q w (n : Int) = some (fac w n) := fun q n hn hq => by
  have h := impl_factors_loop w n (by omega) (by omega) (plc w n) q 0 [] (by omega) rfl (by unfold plc; omega)
  exact h
 intro d
 induction d with
 | zero =>
  intro k n hd hk
  obtain ⟨k, rfl⟩ : ∃ q, k = q + 1 := ⟨k - 1, by omega⟩
  obtain rfl : n = w.size := by omega
  have hfq := hfac k w.size (by omega) (by omega)
  simp only [impl_WindowOf.l0]
  rw [hfq]
  simp only [Option.bind_some]
  rw [impl_whole w hw w.size _ k, whole_last]
  rfl
 | succ d ih =>
  intro k n hd hk
  obtain ⟨k, rfl⟩ : ∃ q, k = q + 1 := ⟨k - 1, by omega⟩
  have hfq := hfac k n (by omega) (by omega)
  have hih := ih k (n + 1) (by omega) (by omega)
  have a1 : n < 4611686018427387904 := by omega
  simp only [impl_WindowOf.l0]
  rw [hfq]
  simp only [Option.bind_some]
  rw [impl_whole w hw n _ k, winF]
  simp only [Option.bind_some]
  by_cases c : wholeB w n (fac w m) = true
  ·
   rw [if_pos c, if_pos c]
  ·
   rw [if_neg c, if_neg c, show wrap64 ((n : Int) + 1) = ((n + 1 : Nat) : Int) from wrap_succ a1, hih]

theorem spec_win (w : ByteArray) (hw : w.size ≤ 60) (m : Nat) (hl : (fac w m).length ≤ 100) : ∀ (d k n : Nat), n + d = w.size → d + 9000 < k → spec_WindowOf.l0 k w (fac w m) (n : Int) = some (((winF w (fac w m) d n : Nat) : Int), (0 : Int)) := by
 have hls : ∀ x ∈ fac w m, x.size ≤ 60 := fun x hx => by have := (fac_size' w m x hx).2; omega
 intro d
 induction d with
 | zero =>
  intro k n hd hk
  obtain ⟨k, rfl⟩ : ∃ q, k = q + 1 := ⟨k - 1, by omega⟩
  obtain rfl : n = w.size := by omega
  have h := spec_whole w hw w.size (by omega) (fac w m) hl hls k (by omega)
  simp only [spec_WindowOf.l0]
  rw [h, whole_last]
  rfl
 | succ d ih =>
  intro k n hd hk
  obtain ⟨k, rfl⟩ : ∃ q, k = q + 1 := ⟨k - 1, by omega⟩
  have h := spec_whole w hw n (by omega) (fac w m) hl hls k (by omega)
  have hih := ih k (n + 1) (by omega) (by omega)
  have a1 : n < 4611686018427387904 := by omega
  simp only [spec_WindowOf.l0]
  rw [h, winF]
  simp only [Option.bind_some]
  by_cases c : wholeB w n (fac w m) = true
  ·
   rw [if_pos c, if_pos c]
  ·
   rw [if_neg c, if_neg c, show wrap64 ((n : Int) + 1) = ((n + 1 : Nat) : Int) from wrap_succ a1, hih]

end Go.Proofs.YtfehmbifcoajeaaGreat.PF

namespace Go.Proofs.YtfehmbifcoajeaaGreat.PF
open Go.RowKit Go.Proofs.YtfehmbifcoajeaaGreatW.PrintWords Go.Proofs.YtfehmbifcoajeaaGreatW.PrintLast Go.Proofs.YtfehmbifcoajeaaGreatW.PrintMore
set_option linter.unusedVariables false
set_option linter.unusedSimpArgs false
set_option maxRecDepth 20000

/-- Is a number a length? -/
def inL (m : Int) : Bool := decide (0 ≤ m) && decide (m ≤ 60)
theorem window1_f (m : Int) : impl_WindowOf_1.f m = some (inL m) := by
 unfold impl_WindowOf_1.f impl_isLength.f impl_within.f inL
 by_cases h : (0 : Int) ≤ m
 ·
  rw [if_pos h, decide_eq_true h, Bool.true_and]; rfl
 ·
  rw [if_neg h, decide_eq_false h, Bool.false_and]; rfl
theorem win_in (m : Int) : spec_l01In.f m 0 60 = some (inL m) := by
 unfold spec_l01In.f inL
 by_cases h : (0 : Int) ≤ m
 ·
  rw [if_pos h, decide_eq_true h, Bool.true_and]
 ·
  rw [if_neg h, decide_eq_false h, Bool.false_and]
theorem winF_ok (w : ByteArray) (ws : List ByteArray) (hl : wholeB w w.size ws = true) : ∀ d n, n + d = w.size → n ≤ winF w ws d n ∧ winF w ws d n ≤ w.size ∧ wholeB w (winF w ws d n) ws = true
 | 0, n, h => by
  rw [winF, show n = w.size by omega]
  exact ⟨Nat.le_refl _, Nat.le_refl _, hl⟩
 | d + 1, n, h => by
  rw [winF]
  by_cases c : wholeB w n ws = true
  ·
   rw [if_pos c]; exact ⟨Nat.le_refl _, by omega, c⟩
  ·
   rw [if_neg c]
   obtain ⟨h1, h2, h3⟩ := winF_ok w ws hl d (n + 1) (by omega)
   exact ⟨by omega, h2, h3⟩
theorem fac_same {w v : ByteArray} {m n : Nat} (h : wholeB w n (fac w m) = true) (hv : v ∈ fac w n) : fac v m = fac w m := by
 refine SS_uniq (fac_SS v m) (fac_SS w m) fun x => ?_
 unfold wholeB at h
 rw [List.all_eq_true] at h
 have h := h v hv
 rw [List.all_eq_true] at h
 obtain ⟨i, hi, rfl⟩ := (mem_fac w n v).1 hv
 constructor
 ·
  intro hx
  obtain ⟨j, h1, rfl⟩ := (mem_fac _ m x).1 hx
  rw [ByteArray.size_extract] at h1
  refine (mem_fac w m _).2 ⟨i + j, by omega, ?_⟩
  rw [ByteArray.extract_extract]
  congr 1
  omega
 ·
  intro hx
  have hb := h x hx
  obtain ⟨j, h1, h2⟩ := (hasB_iff _ x).1 hb
  have hs := (fac_size' w m x hx).1
  rw [hs] at h1 h2
  exact (mem_fac _ m x).2 ⟨j, h1, h2.symm⟩
theorem window_ev (w : ByteArray) (m : Int) (hw : w.size ≤ 100000) : ∃ r : Int × Int, (r.2 = 0 → isW w = true ∧ ∃ n q : Nat, m = n ∧ r.1 = q ∧ n ≤ q ∧ q ≤ w.size ∧ n ≤ 60 ∧ wholeB w q (fac w n) = true) ∧ Ev (fun k => spec_WindowOf.f k w m) r ∧ Ev (fun k => impl_WindowOf.f k w m) r := by
 unfold spec_WindowOf.f impl_WindowOf.f spec_l05Code.f
 simp only [window1_f, wordCode_f, win_in, Option.bind_some]
 have hl := l01Is_ev w (by omega)
 by_cases h0 : isW w = true
 ·
  have hs := isW_size h0
  rw [h0] at hl
  by_cases h1 : inL m = true
  ·
   have hc : codeW (inL m) [w] = 0 := codeW_zero.2 ⟨by simp [h0], h1⟩
   have hr := h1
   simp only [inL, Bool.and_eq_true, decide_eq_true_eq] at hr
   obtain ⟨n, rfl⟩ : ∃ n : Nat, m = n := ⟨m.toNat, by omega⟩
   have hcode : Ev (fun k => (spec_l01Is.f k w).bind fun t101 => (if t101 = true then (if inL (n : Int) = true then (some (0 : Int)) else (some 2)) else (some 1))) 0 := ev_bnd hl (by simp only [if_true, h1]; exact ev_of rfl)
   have hsf := spec_factors_ev w n (by omega) (by omega)
   have hif := impl_factors_ev w n (by omega) (by omega)
   have hfl := fac_length_le w n
   by_cases hbig : (n : Int) > (w.size : Int)
   ·
    refine ⟨(0, 4), fun h => absurd h (by decide), ev_bnd hcode ?_, ?_⟩
    ·
     simp only [if_true]
     refine ev_bnd hsf ?_
     simp only [show ((fac w n).length : Int) = 0 by omega, if_true]; exact ev_of rfl
    ·
     simp only [hc, if_true, impl_size.f, Option.bind_some, hbig]; exact ev_of rfl
   ·
    have hne : ¬ ((fac w n).length : Int) = 0 := by
     have hmem : w.extract 0 (0 + n) ∈ fac w n := (mem_fac w n _).2 ⟨0, by omega, rfl⟩
     have := List.length_pos_of_mem hmem
     omega
    obtain ⟨y1, y2, y3⟩ := winF_ok w (fac w n) (whole_last w n) (w.size - n) n (by omega)
    refine ⟨(((winF w (fac w n) (w.size - n) n : Nat) : Int), (0 : Int)), fun _ => ⟨h0, n, _, rfl, rfl, y1, y2, by omega, y3⟩, ev_bnd hcode ?_, ?_⟩
    ·
     simp only [if_true]
     refine ev_bnd hsf ?_
     simp only [hne, if_false]
     exact ⟨10000, fun k hk => spec_win w hs n (by omega) (w.size - n) k n (by omega) (by omega)⟩
    ·
     simp only [hc, if_true, impl_size.f, Option.bind_some, hbig, if_false]
     refine ev_bnd hif ?_
     exact ⟨10000, fun k hk => impl_win w hs n (w.size - n) k n (by omega) (by omega)⟩
  ·
   have h1' : inL m = false := by simpa using h1
   have hc : codeW (inL m) [w] = 2 := by simp [codeW, h0, h1']
   refine ⟨(0, 2), fun h => absurd h (by decide), ev_bnd (a := (2 : Int)) (ev_bnd hl (by simp only [if_true, h1', Bool.false_eq_true, if_false]; exact ev_of rfl)) ?_, ?_⟩
   ·
    simp only [show ¬ ((2 : Int) = 0) by omega, if_false]; exact ev_of rfl
   ·
    simp only [hc, show ¬ ((2 : Int) = 0) by omega, if_false]; exact ev_of rfl
 ·
  have hc : codeW (inL m) [w] = 1 := by simp [codeW, h0]
  have h0' : isW w = false := by simpa using h0
  rw [h0'] at hl
  refine ⟨(0, 1), fun h => absurd h (by decide), ev_bnd (a := (1 : Int)) (ev_bnd hl (by simp only [Bool.false_eq_true, if_false]; exact ev_of rfl)) ?_, ?_⟩
  ·
   simp only [show ¬ ((1 : Int) = 0) by omega, if_false]; exact ev_of rfl
  ·
   simp only [hc, show ¬ ((1 : Int) = 0) by omega, if_false]; exact ev_of rfl

end Go.Proofs.YtfehmbifcoajeaaGreat.PF

namespace Go.Proofs.YtfehmbifcoajeaaGreat.PF
open Go.RowKit Go.Proofs.YtfehmbifcoajeaaGreatW.PrintWords Go.Proofs.YtfehmbifcoajeaaGreatW.PrintLast Go.Proofs.YtfehmbifcoajeaaGreatW.PrintMore
set_option linter.unusedVariables false
set_option linter.unusedSimpArgs false
set_option maxRecDepth 20000

/-- The first word of a list that stands in u. -/
def fnd (u : ByteArray) : List ByteArray → Option ByteArray
 | [] => none
 | x :: l => if hasB u x = true then some x else fnd u l
/-- The first one of the longest factors of at most so many letters that stand in u. -/
def lcf (w u : ByteArray) : Nat → ByteArray
 | 0 => ⟨#[]⟩
 | m + 1 => match fnd u (fac w (m + 1)) with
  | some x => x
  | none => lcf w u m

theorem fnd_none (u : ByteArray) : ∀ l : List ByteArray, (∀ x ∈ l, u.size < x.size) → fnd u l = none
 | [], _ => rfl
 | x :: l, h => by
  have hx := h x List.mem_cons_self
  have : ¬ hasB u x = true := fun e => by
   obtain ⟨j, h1, _⟩ := (hasB_iff u x).1 e
   omega
  rw [fnd, if_neg this]
  exact fnd_none u l fun y hy => h y (List.mem_cons_of_mem _ hy)
theorem fac_size (w : ByteArray) (m : Nat) : ∀ x ∈ fac w m, x.size = m := fun x hx => by
 obtain ⟨j, h1, rfl⟩ := (mem_fac w m x).1 hx
 rw [ByteArray.size_extract]; omega
theorem lcf_min (w u : ByteArray) : ∀ m, u.size ≤ m → lcf w u m = lcf w u u.size := by
 intro m
 induction m with
 | zero => intro h; rw [show u.size = 0 by omega]
 | succ m ih =>
  intro h
  by_cases e : u.size = m + 1
  ·
   rw [e]
  ·
   rw [lcf, fnd_none u _ (fun x hx => by rw [fac_size w (m + 1) x hx]; omega)]
   exact ih (by omega)

theorem impl_l1 (w u : ByteArray) (hu : u.size ≤ 60) (m : Int) (l : List ByteArray) (hl : l.length ≤ 1000) : ∀ (d k i : Nat), i + d = l.length →
  impl_LongestCommonFactor.l1 (k + d + 1) w u m l (l.length : Int) (i : Int) = (match fnd u (l.drop i) with | some x => some (x, 0) | none => impl_LongestCommonFactor.l0 k w u (wrap64 (m - 1))) := by
 intro d
 induction d with
 | zero =>
  intro k i hd
  simp only [impl_LongestCommonFactor.l1]
  rw [if_neg (by omega), List.drop_eq_nil_of_le (by omega)]; rfl
 | succ d ih =>
  intro k i hd
  obtain ⟨q, hq⟩ : ∃ q, q = k + d + 1 := ⟨_, rfl⟩
  have hi : i < l.length := by omega
  have hih := ih k (i + 1) (by omega)
  have a1 : (i : Int) < (l.length : Int) := by omega
  have a2 : (0 : Int) ≤ (i : Int) := by omega
  have a3 : i < 4611686018427387904 := by omega
  have hc : strings_Contains.f u l[i] = some (hasB u l[i]) := by unfold strings_Contains.f; rw [if_pos (by omega)]; rfl
  rw [← hq] at hih
  rw [show k + (d + 1) + 1 = q + 1 by rw [hq]; rfl]
  simp only [impl_LongestCommonFactor.l1]
  rw [if_pos a1, if_pos a2, if_pos a1, rdOf_nat _ l i hi, hc, List.drop_eq_getElem_cons hi, fnd]
  simp only [Option.bind_some]
  by_cases c : hasB u l[i] = true
  ·
   rw [if_pos c, if_pos c]
  ·
   rw [if_neg c, if_neg c, show wrap64 ((i : Int) + 1) = ((i + 1 : Nat) : Int) from wrap_succ a3, hih]

theorem impl_l0 (w u : ByteArray) (hw : w.size ≤ 60) (hu : u.size ≤ 60) : ∀ (m k : Nat), m ≤ w.size → m * 100 + 400 < k → impl_LongestCommonFactor.l0 k w u (m : Int) = some (lcf w u m, 0) := by
 have hfac : ∀ (q m : Nat), m ≤ 100 → 100 < q → impl_factors.f q w (m : Int) = some (fac w m) := fun q m hm hq => by
  have h := impl_factors_loop w m (by omega) (by omega) (plc w m) q 0 [] (by omega) rfl (by unfold plc; omega)
  exact h
 intro m
 induction m with
 | zero =>
  intro k hm hk
  obtain ⟨k, rfl⟩ : ∃ n, k = n + 1 + 1 := ⟨k - 2, by omega⟩
  have hmem : w.extract 0 0 ∈ fac w 0 := (mem_fac w 0 _).2 ⟨0, by omega, rfl⟩
  have hpos : 0 < (fac w 0).length := List.length_pos_of_mem hmem
  have hz : (fac w 0)[0] = (⟨#[]⟩ : ByteArray) := by
   have hs := fac_size w 0 _ (List.getElem_mem hpos)
   exact ba_ext (List.eq_nil_of_length_eq_zero (by rw [Array.length_toList]; exact hs))
  have hc : strings_Contains.f u (⟨#[]⟩ : ByteArray) = some true := by
   unfold strings_Contains.f
   rw [if_pos (by omega)]
   exact congrArg some ((hasB_iff u ⟨#[]⟩).2 ⟨0, by show 0 + 0 ≤ u.size; omega, by show u.extract 0 (0 + 0) = _; exact ba_ext (by simp)⟩)
  have a1 : (0 : Int) < ((fac w 0).length : Int) := by omega
  have h0 : rdOf ByteArray.empty (fac w 0) 0 = (⟨#[]⟩ : ByteArray) := by rw [show (0 : Int) = ((0 : Nat) : Int) from rfl, rdOf_nat _ _ 0 hpos, hz]
  simp only [impl_LongestCommonFactor.l0]
  rw [show ((0 : Nat) : Int) = 0 from rfl, show (0 : Int) = ((0 : Nat) : Int) from rfl, hfac (k + 1) 0 (by omega) (by omega)]
  simp only [Option.bind_some, impl_LongestCommonFactor.l1]
  rw [show ((0 : Nat) : Int) = 0 from rfl, if_pos a1, if_pos (Int.le_refl _), if_pos a1, h0, hc]
  rfl
 | succ m ih =>
  intro k hm hk
  have hfl := fac_length_le w (m + 1)
  obtain ⟨k, rfl⟩ : ∃ n, k = (n + (fac w (m + 1)).length + 1) + 1 := ⟨k - (fac w (m + 1)).length - 2, by omega⟩
  obtain ⟨q, hq⟩ : ∃ q, q = k + (fac w (m + 1)).length + 1 := ⟨_, rfl⟩
  have hl := impl_l1 w u hu ((m + 1 : Nat) : Int) (fac w (m + 1)) (by omega) (fac w (m + 1)).length k 0 (by omega)
  have hih := ih k (by omega) (by omega)
  have hfq := hfac q (m + 1) (by omega) (by omega)
  have hw1 : wrap64 (((m + 1 : Nat) : Int) - 1) = (m : Int) := wrap_nat (by omega) (by omega)
  rw [← hq] at hl ⊢
  simp only [impl_LongestCommonFactor.l0]
  rw [hfq]
  simp only [Option.bind_some]
  rw [show (0 : Int) = ((0 : Nat) : Int) from rfl, hl, List.drop_zero, hw1, hih, lcf]
  cases fnd u (fac w (m + 1)) <;> rfl

theorem spec_l1 (w u : ByteArray) (hu : u.size ≤ 60) (m : Int) (l : List ByteArray) (hl : l.length ≤ 1000) (hls : ∀ x ∈ l, x.size ≤ 60) : ∀ (d k i : Nat), i + d = l.length → 100 < k →
  spec_LongestCommonFactor.l1 (k + d + 1) w u m l (i : Int) = (match fnd u (l.drop i) with | some x => some (x, 0) | none => spec_LongestCommonFactor.l0 k w u (wrap64 (m - 1))) := by
 intro d
 induction d with
 | zero =>
  intro k i hd hk
  simp only [spec_LongestCommonFactor.l1]
  rw [if_neg (by omega), List.drop_eq_nil_of_le (by omega)]; rfl
 | succ d ih =>
  intro k i hd hk
  obtain ⟨q, hq⟩ : ∃ q, q = k + d + 1 := ⟨_, rfl⟩
  have hi : i < l.length := by omega
  have hih := ih k (i + 1) (by omega) hk
  have a1 : (i : Int) < (l.length : Int) := by omega
  have a2 : (0 : Int) ≤ (i : Int) := by omega
  have a3 : i < 4611686018427387904 := by omega
  have hpl : spec_l01Places.f q u l[i] = some (places u l[i]) := by
   have h := spec_places_loop u l[i] hu (hls _ (List.getElem_mem hi)) (u.size + 1) q 0 [] (by omega) (by simp) (by omega)
   exact h
  have hpp := places_pos u l[i]
  rw [← hq] at hih
  rw [show k + (d + 1) + 1 = q + 1 by rw [hq]; rfl]
  simp only [spec_LongestCommonFactor.l1]
  rw [if_pos a1, if_pos a2, rdOf_nat _ l i hi, hpl, List.drop_eq_getElem_cons hi, fnd]
  simp only [Option.bind_some]
  by_cases c : hasB u l[i] = true
  ·
   rw [if_pos (show ((places u l[i]).length : Int) > 0 by have := hpp.2 c; omega), if_pos c]
  ·
   rw [if_neg (show ¬ ((places u l[i]).length : Int) > 0 from fun h => c (hpp.1 (by omega))), if_neg c, show wrap64 ((i : Int) + 1) = ((i + 1 : Nat) : Int) from wrap_succ a3, hih]

theorem spec_l0 (w u : ByteArray) (hw : w.size ≤ 60) (hu : u.size ≤ 60) : ∀ (m k : Nat), m ≤ w.size → m * 100 + 500 < k → spec_LongestCommonFactor.l0 k w u (m : Int) = some (lcf w u m, 0) := by
 have hfac : ∀ (q m : Nat), m ≤ 100 → 200 < q → spec_l01Factors.f q w (m : Int) = some (fac w m) := fun q m hm hq => by
  have hpl : plc w m ≤ 61 := by unfold plc; omega
  have h := spec_factors_loop w m (by omega) (by omega) (plc w m) (q - plc w m) 0 [] (by omega) rfl (by omega)
  rw [show q - plc w m + plc w m = q by omega, canon_nil] at h
  exact h
 intro m
 induction m with
 | zero =>
  intro k hm hk
  obtain ⟨k, rfl⟩ : ∃ n, k = n + 1 := ⟨k - 1, by omega⟩
  simp only [spec_LongestCommonFactor.l0]
  rw [if_neg (by omega)]; rfl
 | succ m ih =>
  intro k hm hk
  have hfl := fac_length_le w (m + 1)
  obtain ⟨k, rfl⟩ : ∃ n, k = (n + (fac w (m + 1)).length + 1) + 1 := ⟨k - (fac w (m + 1)).length - 2, by omega⟩
  obtain ⟨q, hq⟩ : ∃ q, q = k + (fac w (m + 1)).length + 1 := ⟨_, rfl⟩
  have hl := spec_l1 w u hu ((m + 1 : Nat) : Int) (fac w (m + 1)) (by omega) (fun x hx => by rw [fac_size w (m + 1) x hx]; omega) (fac w (m + 1)).length k 0 (by omega) (by omega)
  have hih := ih k (by omega) (by omega)
  have hfq := hfac q (m + 1) (by omega) (by omega)
  have a1 : ((m + 1 : Nat) : Int) > 0 := by omega
  have hw1 : wrap64 (((m + 1 : Nat) : Int) - 1) = (m : Int) := wrap_nat (by omega) (by omega)
  rw [← hq] at hl ⊢
  simp only [spec_LongestCommonFactor.l0]
  rw [if_pos a1, hfq]
  simp only [Option.bind_some]
  rw [show (0 : Int) = ((0 : Nat) : Int) from rfl, hl, List.drop_zero, hw1, hih, lcf]
  cases fnd u (fac w (m + 1)) <;> rfl

theorem fnd_some {u x : ByteArray} : ∀ {l : List ByteArray}, fnd u l = some x → x ∈ l ∧ hasB u x = true
 | [], h => by cases h
 | y :: l, h => by
  rw [fnd] at h
  by_cases c : hasB u y = true
  ·
   rw [if_pos c] at h; obtain rfl := Option.some.inj h; exact ⟨List.mem_cons_self, c⟩
  ·
   rw [if_neg c] at h; have := fnd_some h; exact ⟨List.mem_cons_of_mem _ this.1, this.2⟩
theorem lcf_in (w u : ByteArray) : ∀ m, hasB u (lcf w u m) = true ∧ ∃ j n, j + n ≤ w.size ∧ lcf w u m = w.extract j (j + n)
 | 0 => by
  refine ⟨(hasB_iff u _).2 ⟨0, by show 0 + 0 ≤ u.size; omega, ?_⟩, 0, 0, by omega, ?_⟩
  ·
   exact ByteArray.ext (by simp [ByteArray.data_extract, lcf, show (⟨#[]⟩ : ByteArray).size = 0 from rfl])
  ·
   exact ByteArray.ext (by simp [ByteArray.data_extract, lcf])
 | m + 1 => by
  rw [lcf]
  cases e : fnd u (fac w (m + 1)) with
  | some x =>
   obtain ⟨h1, h2⟩ := fnd_some e
   obtain ⟨j, h3, h4⟩ := (mem_fac w _ x).1 h1
   exact ⟨h2, j, m + 1, h3, h4⟩
  | none => exact lcf_in w u m
theorem lcf_ev (w u : ByteArray) (hw : w.size ≤ 100000) (hu : u.size ≤ 100000) : ∃ r : ByteArray × Int, (r.2 = 0 → isW w = true ∧ isW u = true ∧ r.1 = lcf w u w.size) ∧ Ev (fun k => spec_LongestCommonFactor.f k w u) r ∧ Ev (fun k => impl_LongestCommonFactor.f k w u) r := by
 unfold spec_LongestCommonFactor.f impl_LongestCommonFactor.f impl_always.f
 simp only [wordCode_f, Option.bind_some]
 by_cases h0 : isW w = true
 ·
  by_cases h1 : isW u = true
  ·
   have hs := isW_size h0
   have hs2 := isW_size h1
   have hc : codeW true [w, u] = 0 := codeW_zero.2 ⟨by simp [h0, h1], rfl⟩
   refine ⟨(lcf w u w.size, 0), fun _ => ⟨h0, h1, rfl⟩, ev_bnd (l01Is_ev w (by omega)) ?_, ?_⟩
   ·
    simp only [h0, if_true]
    refine ev_bnd (l01Is_ev u (by omega)) ?_
    rw [h1]
    refine ev_suc ?_
    simp only [spec_LongestCommonFactor.j0, Bool.not_true, Bool.false_eq_true, if_false]
    by_cases c : w.size ≤ u.size
    ·
     have e : mn (w.size : Int) (u.size : Int) = (w.size : Int) := by unfold mn; split <;> omega
     rw [e]
     exact ⟨10000, fun k hk => spec_l0 w u hs hs2 w.size k (Nat.le_refl _) (by omega)⟩
    ·
     have e : mn (w.size : Int) (u.size : Int) = (u.size : Int) := by unfold mn; split <;> omega
     rw [e, lcf_min w u w.size (by omega)]
     exact ⟨10000, fun k hk => spec_l0 w u hs hs2 u.size k (by omega) (by omega)⟩
   ·
    simp only [hc, if_true]
    exact ⟨10000, fun k hk => impl_l0 w u hs hs2 w.size k (Nat.le_refl _) (by omega)⟩
  ·
   have hc : codeW true [w, u] = 1 := by simp [codeW, h1]
   have h1' : isW u = false := by simpa using h1
   refine ⟨(⟨#[]⟩, 1), fun h => absurd h (by decide), ev_bnd (l01Is_ev w (by omega)) ?_, ?_⟩
   ·
    simp only [h0, if_true]
    refine ev_bnd (l01Is_ev u (by omega)) ?_
    rw [h1']
    refine ev_suc ?_
    simp only [spec_LongestCommonFactor.j0, Bool.not_false, if_true]
    exact ev_of rfl
   ·
    simp only [hc, show ¬ ((1 : Int) = 0) by omega, if_false]; exact ev_of rfl
 ·
  have hc : codeW true [w, u] = 1 := by simp [codeW, h0]
  refine ⟨(⟨#[]⟩, 1), fun h => absurd h (by decide), ev_bnd (l01Is_ev w (by omega)) ?_, ?_⟩
  ·
   simp only [h0, if_false]
   refine ev_suc ?_
   simp only [spec_LongestCommonFactor.j0, if_true]
   exact ev_of rfl
  ·
   simp only [hc, show ¬ ((1 : Int) = 0) by omega, if_false]; exact ev_of rfl

end Go.Proofs.YtfehmbifcoajeaaGreat.PF
