/- The reference's insertion into ordered words, and the factors of a length: both the program and the reference come to the same ordered list. -/
import Derived.Test.YtlehnijikmbkjaaPFLibW
import Derived.Test.YtlehnijikmbkjaaPFx14
import Derived.Test.YtlehnijikmbkjaaPFx4
namespace Go.Proofs.Ytlehnijikmbkjaa.PF
open Go.RowKit Go.Proofs.YtlehnijikmbkjaaW.PrintWords Go.Proofs.YtlehnijikmbkjaaW.PrintLast Go.Proofs.YtlehnijikmbkjaaW.PrintMore
set_option linter.unusedVariables false
set_option linter.unusedSimpArgs false

theorem rdOf_get {α : Type} (d : α) (l : List α) (i : Nat) (h : i < l.length) : rdOf d l (i : Int) = l[i] := by
  simp [rdOf, h]

/-- The reference's insertion: from place n down; what lies from n on is greater. -/
theorem put_loop (l : List ByteArray) (x : ByteArray) (hS : SS l) (hl : l.length < 4000000000000) : ∀ (n k : Nat), n ≤ l.length → n < k → (∀ j (hj : j < l.length), n ≤ j → x.toList < l[j].toList) →
    ∃ r, spec_l01Put.l0 k l x (n : Int) = some r ∧ SS r ∧ (∀ y, y ∈ r ↔ y ∈ l ∨ y = x) := by
  intro n
  induction n with
  | zero =>
    intro k hn hk hgt
    obtain ⟨k, rfl⟩ : ∃ m, k = m + 1 := ⟨k - 1, by omega⟩
    refine ⟨x :: l, ?_, ?_, ?_⟩
    · simp only [spec_l01Put.l0]
      rw [if_neg (by omega)]
      try simp only [Option.bind_some]
      rw [if_pos (by omega), if_pos (by omega)]
      simp only [Int.toNat_natCast, List.take_zero, List.drop_zero, List.nil_append, List.length_nil, List.length_singleton]
      rw [if_pos (by omega)]
      try simp only [Option.bind_some]
      rw [if_pos (by omega)]
      simp only [Option.bind_some, List.singleton_append]
      rw [if_pos (by first | omega | (simp; omega))]
    · refine List.pairwise_cons.2 ⟨fun y hy => ?_, hS⟩
      obtain ⟨j, hj, rfl⟩ := List.getElem_of_mem hy
      exact hgt j hj (by omega)
    · intro y; simp [or_comm]
  | succ n ih =>
    intro k hn hk hgt
    obtain ⟨k, rfl⟩ : ∃ m, k = m + 1 := ⟨k - 1, by omega⟩
    have hw : wrap64 (((n + 1 : Nat) : Int) - 1) = (n : Int) := by rw [wrap_id (by omega) (by omega)]; omega
    simp only [spec_l01Put.l0, hw]
    rw [if_pos (by omega), if_pos (by omega), if_pos (by omega), rdOf_get _ _ n (by omega)]
    by_cases h1 : Op.bytesLess x.toList l[n].toList = true
    · rw [if_pos h1]
      refine ih k (by omega) (by omega) ?_
      intro j hj hnj
      by_cases e : j = n
      · subst e; exact (less_iff _ _).1 h1
      · exact hgt j hj (by omega)
    · rw [if_neg h1]
      by_cases h2 : l[n].toList = x.toList
      · rw [if_pos h2]
        have hx := ba_inj.1 h2
        exact ⟨l, rfl, hS, fun y => ⟨.inl, fun h => h.elim id (fun e => by rw [e, ← hx]; exact List.getElem_mem _)⟩⟩
      · rw [if_neg h2]
        have hlt : l[n].toList < x.toList := by
          have : ¬ x.toList < l[n].toList := fun h => h1 ((less_iff _ _).2 h)
          exact Std.lt_of_le_of_ne this h2
        refine ⟨l.take (n + 1) ++ [x] ++ l.drop (n + 1), ?_, ?_, ?_⟩
        · simp only [Option.bind_some]
          rw [if_pos (by omega), if_pos (by omega)]
          simp only [Int.toNat_natCast, List.nil_append, List.length_nil, Nat.zero_add]
          rw [if_pos (by rw [List.length_take]; omega)]
          try simp only [Option.bind_some]
          rw [if_pos (by rw [List.length_take]; omega)]
          try simp only [Option.bind_some]
          rw [if_pos (by simp only [List.length_append, List.length_take, List.length_singleton, List.length_drop]; omega)]
        · have htd : SS (l.take (n + 1) ++ l.drop (n + 1)) := by rw [List.take_append_drop]; exact hS
          obtain ⟨p1, p2, p3⟩ := List.pairwise_append.1 htd
          unfold SS
          rw [List.append_assoc]
          refine List.pairwise_append.2 ⟨p1, ?_, ?_⟩
          · rw [List.singleton_append]
            refine List.pairwise_cons.2 ⟨fun y hy => ?_, p2⟩
            obtain ⟨j, hj, rfl⟩ := List.getElem_of_mem hy
            rw [List.getElem_drop]
            rw [List.length_drop] at hj
            exact hgt (n + 1 + j) (by omega) (by omega)
          · intro a ha b hb
            have hax : a.toList < x.toList := by
              obtain ⟨j, hj, rfl⟩ := List.getElem_of_mem ha
              rw [List.length_take] at hj
              rw [List.getElem_take]
              by_cases e : j = n
              · subst e; exact hlt
              · exact List.lt_trans (List.pairwise_iff_getElem.1 hS j n (by omega) (by omega) (by omega)) hlt
            rcases List.mem_append.1 hb with hb | hb
            · obtain rfl := List.mem_singleton.1 hb; exact hax
            · exact p3 a ha b hb
        · intro y
          have : y ∈ l ↔ y ∈ l.take (n + 1) ∨ y ∈ l.drop (n + 1) := by rw [← List.mem_append, List.take_append_drop]
          rw [this]
          simp only [List.mem_append, List.mem_singleton]
          constructor
          · rintro ((h | h) | h)
            · exact .inl (.inl h)
            · exact .inr h
            · exact .inl (.inr h)
          · rintro ((h | h) | h)
            · exact .inl (.inl h)
            · exact .inr h
            · exact .inl (.inr h)

theorem put_ev (l : List ByteArray) (x : ByteArray) (hl : l.length < 4000000000000) : ∀ k, l.length < k → spec_l01Put.f k (canon l) x = some (canon (l ++ [x])) := by
  intro k hk
  have hle := canon_length_le l
  obtain ⟨r, h1, h2, h3⟩ := put_loop (canon l) x (canon_SS l) (by omega) (canon l).length k (Nat.le_refl _) (by omega) (fun j hj hn => by omega)
  unfold spec_l01Put.f
  rw [h1, canon_eq h2 (l := l ++ [x]) (fun y => by rw [h3, mem_canon]; simp)]

/-- The factors of a length, place by place, from place i on. -/
def fcsFrom (w : ByteArray) (m : Nat) : Nat → Nat → List ByteArray
  | 0, _ => []
  | d + 1, i => w.extract i (i + m) :: fcsFrom w m d (i + 1)
/-- How many places a factor of a length has. -/
def plc (w : ByteArray) (m : Nat) : Nat := w.size + 1 - m
def fcs (w : ByteArray) (m : Nat) : List ByteArray := fcsFrom w m (plc w m) 0
/-- The different factors of a length, in order. -/
def fac (w : ByteArray) (m : Nat) : List ByteArray := canon (fcs w m)

theorem fcsFrom_length (w : ByteArray) (m : Nat) : ∀ d i, (fcsFrom w m d i).length = d
  | 0, _ => rfl
  | d + 1, i => by rw [fcsFrom, List.length_cons, fcsFrom_length w m d]

theorem mem_fcsFrom (w : ByteArray) (m : Nat) (x : ByteArray) : ∀ d i, x ∈ fcsFrom w m d i ↔ ∃ j, i ≤ j ∧ j < i + d ∧ x = w.extract j (j + m)
  | 0, i => by simp [fcsFrom]; intro j h1 h2; omega
  | d + 1, i => by
    rw [fcsFrom, List.mem_cons, mem_fcsFrom w m x d (i + 1)]
    constructor
    · rintro (h | ⟨j, h1, h2, h3⟩)
      · exact ⟨i, by omega, by omega, h⟩
      · exact ⟨j, by omega, by omega, h3⟩
    · rintro ⟨j, h1, h2, h3⟩
      by_cases e : j = i
      · subst e; exact .inl h3
      · exact .inr ⟨j, by omega, by omega, h3⟩

theorem mem_fac (w : ByteArray) (m : Nat) (x : ByteArray) : x ∈ fac w m ↔ ∃ j, j + m ≤ w.size ∧ x = w.extract j (j + m) := by
  unfold fac fcs plc
  rw [mem_canon, mem_fcsFrom]
  constructor
  · rintro ⟨j, _, h2, h3⟩; exact ⟨j, by omega, h3⟩
  · rintro ⟨j, h2, h3⟩; exact ⟨j, by omega, by omega, h3⟩

theorem fac_SS (w : ByteArray) (m : Nat) : SS (fac w m) := canon_SS _
theorem fac_length_le (w : ByteArray) (m : Nat) : (fac w m).length ≤ w.size + 1 - m := by
  have := canon_length_le (fcs w m); unfold fcs at this; rw [fcsFrom_length] at this; exact this

theorem extract_size (w : ByteArray) {i j : Nat} (h1 : i ≤ j) (h2 : j ≤ w.size) : (w.extract i j).size = j - i := by
  rw [ByteArray.size_extract]; omega

theorem impl_factors_loop (w : ByteArray) (m : Nat) (hw : w.size ≤ 1000000) (hm : m ≤ 1000000) : ∀ (d k i : Nat) (acc : List ByteArray), i + d = plc w m → acc.length = i → d < k →
    impl_factors.l0 k w (m : Int) acc (i : Int) = some (canon (acc ++ fcsFrom w m d i)) := by
  intro d
  induction d with
  | zero =>
    intro k i acc hd ha hk
    obtain ⟨k, rfl⟩ : ∃ n, k = n + 1 := ⟨k - 1, by omega⟩
    unfold plc at hd
    simp only [impl_factors.l0]
    rw [wrap_id (by omega) (by omega), if_neg (by omega), sorted_f (by omega)]
    simp [fcsFrom]
  | succ d ih =>
    intro k i acc hd ha hk
    obtain ⟨k, rfl⟩ : ∃ n, k = n + 1 := ⟨k - 1, by omega⟩
    have hd' := hd
    unfold plc at hd'
    simp only [impl_factors.l0]
    rw [wrap_id (x := (i : Int) + m) (by omega) (by omega), if_pos (by omega), if_pos (by omega), if_pos (by omega), if_pos (by omega), wrap_id (x := (i : Int) + 1) (by omega) (by omega)]
    rw [show (i : Int) + 1 = ((i + 1 : Nat) : Int) from rfl, ih k (i + 1) _ (by omega) (by simp [ha]) (by omega)]
    rw [show ((i : Int) + (m : Int)).toNat = i + m by omega, Int.toNat_natCast]
    simp [fcsFrom]

theorem impl_factors_ev (w : ByteArray) (m : Nat) (hw : w.size ≤ 1000000) (hm : m ≤ 1000000) : Ev (fun k => impl_factors.f k w (m : Int)) (fac w m) :=
  ⟨w.size + 2, fun k hk => by
    have h := impl_factors_loop w m hw hm (plc w m) k 0 [] (by omega) rfl (by unfold plc; omega)
    exact h⟩

theorem canon_nil : canon [] = [] := List.eq_nil_iff_forall_not_mem.2 fun x hx => by rw [mem_canon] at hx; cases hx

end Go.Proofs.Ytlehnijikmbkjaa.PF
