/- Factors, filters and seeds in one text (a claim has at most 60 files). -/
import Derived.Test.YtcfphjjdbccnoaaGreatPFLibW
import Derived.Test.YtcfphjjdbccnoaaGreatPFx4
import Derived.Test.YtcfphjjdbccnoaaGreatPFx2
import Derived.Test.YtcfphjjdbccnoaaGreatPFLibPl
import Derived.Test.YtcfphjjdbccnoaaGreatPFx1
import Derived.Test.YtcfphjjdbccnoaaGreatPFGivB
import Derived.Test.YtcfphjjdbccnoaaGreatPFLibY2
import Derived.Test.YtcfphjjdbccnoaaGreatPFLibRg
import Derived.Test.YtcfphjjdbccnoaaGreatPFx5
import Derived.Test.YtcfphjjdbccnoaaGreatPFx6
import Derived.Test.YtcfphjjdbccnoaaGreatPFx3
namespace Go.Proofs.YtcfphjjdbccnoaaGreat.PF
open Go.RowKit Go.Proofs.YtcfphjjdbccnoaaGreatW.PrintWords Go.Proofs.YtcfphjjdbccnoaaGreatW.PrintLast Go.Proofs.YtcfphjjdbccnoaaGreatW.PrintMore
set_option linter.unusedVariables false
set_option linter.unusedSimpArgs false

theorem rdOf_get {α : Type} (d : α) (l : List α) (i : Nat) (h : i < l.length) : rdOf d l (i : Int) = l[i] := by
 simp [rdOf, h]

/-- The reference's insertion: from place n down; what lies from n on is greater. -/
theorem put_loop (l : List ByteArray) (x : ByteArray) (hS : SS l) (hl : l.length < 4000000000000) : ∀ (n k : Nat), n ≤ l.length → n < k → (∀ j (hj : j < l.length), n ≤ j → x.toList < l[j].toList) →
  ∃ r, spec_l01Put.l0 k l x (n : Int) = some r ∧ SS r ∧ (∀ y, y ∈ r ↔ y ∈ l ∨ y = x) := by
 intro n
 induction n with
 | zero =>
  intro k hn hk hgt
  obtain ⟨k, rfl⟩ : ∃ m, k = m + 1 := ⟨k - 1, by omega⟩
  refine ⟨x :: l, ?_, ?_, ?_⟩
  ·
   simp only [spec_l01Put.l0]
   rw [if_neg (by omega)]
   try simp only [Option.bind_some]
   rw [if_pos (by omega), if_pos (by omega)]
   simp only [Int.toNat_natCast, List.take_zero, List.drop_zero, List.nil_append, List.length_nil, List.length_singleton]
   rw [if_pos (by omega)]
   try simp only [Option.bind_some]
   rw [if_pos (by omega)]
   simp only [Option.bind_some, List.singleton_append]
   rw [if_pos (by first | omega | (simp; omega))]
  ·
   refine List.pairwise_cons.2 ⟨fun y hy => ?_, hS⟩
   obtain ⟨j, hj, rfl⟩ := List.getElem_of_mem hy
   exact hgt j hj (by omega)
  ·
   intro y; simp [or_comm]
 | succ n ih =>
  intro k hn hk hgt
  obtain ⟨k, rfl⟩ : ∃ m, k = m + 1 := ⟨k - 1, by omega⟩
  have hw : wrap64 (((n + 1 : Nat) : Int) - 1) = (n : Int) := by rw [wrap_id (by omega) (by omega)]; omega
  simp only [spec_l01Put.l0, hw]
  rw [if_pos (by omega), if_pos (by omega), if_pos (by omega), rdOf_get _ _ n (by omega)]
  by_cases h1 : Op.bytesLess x.toList l[n].toList = true
  ·
   rw [if_pos h1]
   refine ih k (by omega) (by omega) ?_
   intro j hj hnj
   by_cases e : j = n
   ·
    subst e; exact (less_iff _ _).1 h1
   ·
    exact hgt j hj (by omega)
  ·
   rw [if_neg h1]
   by_cases h2 : l[n].toList = x.toList
   ·
    rw [if_pos h2]
    have hx := ba_inj.1 h2
    exact ⟨l, rfl, hS, fun y => ⟨.inl, fun h => h.elim id (fun e => by rw [e, ← hx]; exact List.getElem_mem _)⟩⟩
   ·
    rw [if_neg h2]
    have hlt : l[n].toList < x.toList := by
     have : ¬ x.toList < l[n].toList := fun h => h1 ((less_iff _ _).2 h)
     exact Std.lt_of_le_of_ne this h2
    refine ⟨l.take (n + 1) ++ [x] ++ l.drop (n + 1), ?_, ?_, ?_⟩
    ·
     simp only [Option.bind_some]
     rw [if_pos (by omega), if_pos (by omega)]
     simp only [Int.toNat_natCast, List.nil_append, List.length_nil, Nat.zero_add]
     rw [if_pos (by rw [List.length_take]; omega)]
     try simp only [Option.bind_some]
     rw [if_pos (by rw [List.length_take]; omega)]
     try simp only [Option.bind_some]
     rw [if_pos (by simp only [List.length_append, List.length_take, List.length_singleton, List.length_drop]; omega)]
    ·
     have htd : SS (l.take (n + 1) ++ l.drop (n + 1)) := by rw [List.take_append_drop]; exact hS
     obtain ⟨p1, p2, p3⟩ := List.pairwise_append.1 htd
     unfold SS
     rw [List.append_assoc]
     refine List.pairwise_append.2 ⟨p1, ?_, ?_⟩
     ·
      rw [List.singleton_append]
      refine List.pairwise_cons.2 ⟨fun y hy => ?_, p2⟩
      obtain ⟨j, hj, rfl⟩ := List.getElem_of_mem hy
      rw [List.getElem_drop]
      rw [List.length_drop] at hj
      exact hgt (n + 1 + j) (by omega) (by omega)
     ·
      intro a ha b hb
      have hax : a.toList < x.toList := by
       obtain ⟨j, hj, rfl⟩ := List.getElem_of_mem ha
       rw [List.length_take] at hj
       rw [List.getElem_take]
       by_cases e : j = n
       ·
        subst e; exact hlt
       ·
        exact List.lt_trans (List.pairwise_iff_getElem.1 hS j n (by omega) (by omega) (by omega)) hlt
      rcases List.mem_append.1 hb with hb | hb
      ·
       obtain rfl := List.mem_singleton.1 hb; exact hax
      ·
       exact p3 a ha b hb
    ·
     intro y
     have : y ∈ l ↔ y ∈ l.take (n + 1) ∨ y ∈ l.drop (n + 1) := by rw [← List.mem_append, List.take_append_drop]
     rw [this]
     simp only [List.mem_append, List.mem_singleton]
     constructor
     ·
      rintro ((h | h) | h)
      ·
       exact .inl (.inl h)
      ·
       exact .inr h
      ·
       exact .inl (.inr h)
     ·
      rintro ((h | h) | h)
      ·
       exact .inl (.inl h)
      ·
       exact .inr h
      ·
       exact .inl (.inr h)

theorem put_ev (l : List ByteArray) (x : ByteArray) (hl : l.length < 4000000000000) : ∀ k, l.length < k → spec_l01Put.f k (canon l) x = some (canon (l ++ [x])) := by
 intro k hk
 have hle := canon_length_le l
 obtain ⟨r, h1, h2, h3⟩ := put_loop (canon l) x (canon_SS l) (by omega) (canon l).length k (Nat.le_refl _) (by omega) (fun j hj hn => by omega)
 unfold spec_l01Put.f
 rw [h1, canon_eq h2 (l := l ++ [x]) (fun y => by rw [h3, mem_canon]; simp)]

/-- The factors of a length, place by place, from place i on. -/
def fcsFrom (w : ByteArray) (m : Nat) : Nat → Nat → List ByteArray
 | 0, _ => []
 | d + 1, i => w.extract i (i + m) :: fcsFrom w m d (i + 1)
/-- How many places a factor of a length has. -/
def plc (w : ByteArray) (m : Nat) : Nat := w.size + 1 - m
def fcs (w : ByteArray) (m : Nat) : List ByteArray := fcsFrom w m (plc w m) 0
/-- The different factors of a length, in order. -/
def fac (w : ByteArray) (m : Nat) : List ByteArray := canon (fcs w m)

theorem fcsFrom_length (w : ByteArray) (m : Nat) : ∀ d i, (fcsFrom w m d i).length = d
 | 0, _ => rfl
 | d + 1, i => by rw [fcsFrom, List.length_cons, fcsFrom_length w m d]

theorem mem_fcsFrom (w : ByteArray) (m : Nat) (x : ByteArray) : ∀ d i, x ∈ fcsFrom w m d i ↔ ∃ j, i ≤ j ∧ j < i + d ∧ x = w.extract j (j + m)
 | 0, i => by simp [fcsFrom]; intro j h1 h2; omega
 | d + 1, i => by
  rw [fcsFrom, List.mem_cons, mem_fcsFrom w m x d (i + 1)]
  constructor
  ·
   rintro (h | ⟨j, h1, h2, h3⟩)
   ·
    exact ⟨i, by omega, by omega, h⟩
   ·
    exact ⟨j, by omega, by omega, h3⟩
  ·
   rintro ⟨j, h1, h2, h3⟩
   by_cases e : j = i
   ·
    subst e; exact .inl h3
   ·
    exact .inr ⟨j, by omega, by omega, h3⟩

theorem mem_fac (w : ByteArray) (m : Nat) (x : ByteArray) : x ∈ fac w m ↔ ∃ j, j + m ≤ w.size ∧ x = w.extract j (j + m) := by
 unfold fac fcs plc
 rw [mem_canon, mem_fcsFrom]
 constructor
 ·
  rintro ⟨j, _, h2, h3⟩; exact ⟨j, by omega, h3⟩
 ·
  rintro ⟨j, h2, h3⟩; exact ⟨j, by omega, by omega, h3⟩

theorem fac_SS (w : ByteArray) (m : Nat) : SS (fac w m) := canon_SS _
theorem fac_length_le (w : ByteArray) (m : Nat) : (fac w m).length ≤ w.size + 1 - m := by
 have := canon_length_le (fcs w m); unfold fcs at this; rw [fcsFrom_length] at this; exact this

theorem extract_size (w : ByteArray) {i j : Nat} (h1 : i ≤ j) (h2 : j ≤ w.size) : (w.extract i j).size = j - i := by
 rw [ByteArray.size_extract]; omega

theorem impl_factors_loop (w : ByteArray) (m : Nat) (hw : w.size ≤ 1000000) (hm : m ≤ 1000000) : ∀ (d k i : Nat) (acc : List ByteArray), i + d = plc w m → acc.length = i → d < k →
  impl_factors.l0 k w (m : Int) acc (i : Int) = some (canon (acc ++ fcsFrom w m d i)) := by
 intro d
 induction d with
 | zero =>
  intro k i acc hd ha hk
  obtain ⟨k, rfl⟩ : ∃ n, k = n + 1 := ⟨k - 1, by omega⟩
  unfold plc at hd
  simp only [impl_factors.l0]
  rw [wrap_id (by omega) (by omega), if_neg (by omega), sorted_f (by omega)]
  simp [fcsFrom]
 | succ d ih =>
  intro k i acc hd ha hk
  obtain ⟨k, rfl⟩ : ∃ n, k = n + 1 := ⟨k - 1, by omega⟩
  have hd' := hd
  unfold plc at hd'
  simp only [impl_factors.l0]
  rw [wrap_id (x := (i : Int) + m) (by omega) (by omega), if_pos (by omega), if_pos (by omega), if_pos (by omega), if_pos (by omega), wrap_id (x := (i : Int) + 1) (by omega) (by omega)]
  rw [show (i : Int) + 1 = ((i + 1 : Nat) : Int) from rfl, ih k (i + 1) _ (by omega) (by simp [ha]) (by omega)]
  rw [show ((i : Int) + (m : Int)).toNat = i + m by omega, Int.toNat_natCast]
  simp [fcsFrom]

theorem impl_factors_ev (w : ByteArray) (m : Nat) (hw : w.size ≤ 1000000) (hm : m ≤ 1000000) : Ev (fun k => impl_factors.f k w (m : Int)) (fac w m) :=
 ⟨w.size + 2, fun k hk => by
  have h := impl_factors_loop w m hw hm (plc w m) k 0 [] (by omega) rfl (by unfold plc; omega)
  exact h⟩

theorem spec_factors_loop (w : ByteArray) (m : Nat) (hw : w.size ≤ 1000000) (hm : m ≤ 1000000) : ∀ (d k i : Nat) (acc : List ByteArray), i + d = plc w m → acc.length = i → d + i + 2 < k →
  spec_l01Factors.l0 (k + d) w (m : Int) (canon acc) (i : Int) = some (canon (acc ++ fcsFrom w m d i)) := by
 intro d
 induction d with
 | zero =>
  intro k i acc hd ha hk
  obtain ⟨k, rfl⟩ : ∃ n, k = n + 1 := ⟨k - 1, by omega⟩
  unfold plc at hd
  simp only [spec_l01Factors.l0]
  rw [wrap_id (by omega) (by omega), if_neg (by omega)]
  simp [fcsFrom]
 | succ d ih =>
  intro k i acc hd ha hk
  have hd' := hd
  unfold plc at hd'
  rw [show k + (d + 1) = (k + d) + 1 by omega]
  simp only [spec_l01Factors.l0]
  rw [wrap_id (x := (i : Int) + m) (by omega) (by omega), if_pos (by omega), if_pos (by omega), if_pos (by omega), wrap_id (x := (i : Int) + 1) (by omega) (by omega)]
  rw [put_ev acc _ (by omega) (k + d) (by omega)]
  try simp only [Option.bind_some]
  rw [show (i : Int) + 1 = ((i + 1 : Nat) : Int) from rfl, ih k (i + 1) _ (by omega) (by simp [ha]) (by omega)]
  rw [show ((i : Int) + (m : Int)).toNat = i + m by omega, Int.toNat_natCast]
  simp [fcsFrom]

theorem canon_nil : canon [] = [] := List.eq_nil_iff_forall_not_mem.2 fun x hx => by rw [mem_canon] at hx; cases hx

theorem spec_factors_ev (w : ByteArray) (m : Nat) (hw : w.size ≤ 1000000) (hm : m ≤ 1000000) : Ev (fun k => spec_l01Factors.f k w (m : Int)) (fac w m) :=
 ⟨2 * w.size + 10, fun k hk => by
  have h := spec_factors_loop w m hw hm (plc w m) (k - plc w m) 0 [] (by omega) rfl (by unfold plc; omega)
  rw [show k - plc w m + plc w m = k by unfold plc; omega, canon_nil] at h
  exact h⟩

theorem hasSuffix_f (a b : ByteArray) (ha : a.size ≤ 4000000000000000000) : strings_HasSuffix.f a b = some (decide (b.size ≤ a.size ∧ a.extract (a.size - b.size) a.size = b)) := by
 unfold strings_HasSuffix.f stringslite_HasSuffix.f
 by_cases h : b.size ≤ a.size
 ·
  rw [wrap_nat (n := a.size - b.size) (by omega) (by omega)]
  simp only [show (a.size : Int) ≥ (b.size : Int) by omega, show (0 : Int) ≤ ((a.size - b.size : Nat) : Int) by omega, if_true, show ((a.size - b.size : Nat) : Int) ≤ (a.size : Int) by omega, Int.toNat_natCast, Option.bind_some, h, true_and]
  rw [Bool.beq_eq_decide_eq]
  simp only [ba_toList_inj]
 ·
  simp only [show ¬ (a.size : Int) ≥ (b.size : Int) by omega, if_false, Option.bind_some, h, false_and, decide_false]

theorem filterP_some {α : Type} {p : α → Option Bool} {q : α → Bool} : ∀ (l : List α), (∀ x ∈ l, p x = some (q x)) → filterP p l = some (l.filter fun x => !q x)
 | [], _ => rfl
 | x :: l, h => by
  rw [filterP, h x (by simp), filterP_some l (fun y hy => h y (by simp [hy]))]
  simp only [Option.bind_some, List.filter_cons]
  cases q x <;> simp

instance baLaw : LawfulBEq ByteArray where
 eq_of_beq {a b} h := by
  cases a with | mk a => cases b with | mk b =>
  have : (a == b) = true := h
  rw [eq_of_beq this]
 rfl {a} := by
  cases a with | mk a =>
  show (a == a) = true
  exact BEq.rfl

/-- The greatest number up to m that passes a test. -/
def bord (c : Nat → Bool) : Nat → Option Nat
 | 0 => none
 | m + 1 => if c (m + 1) = true then some (m + 1) else bord c m
def seedP (w u : ByteArray) (m : Nat) : Bool := decide (w.extract 0 m = u.extract (u.size - m) u.size)
def seedS (w u : ByteArray) (m : Nat) : Bool := decide (w.extract (w.size - m) w.size = u.extract 0 m)
def putP (c : List Bool) : Option Nat → List Bool
 | none => c
 | some m => setR m 0 c
def putS (n : Nat) (c : List Bool) : Option Nat → List Bool
 | none => c
 | some m => setR m (n - m) c
def isSd (w u : ByteArray) : Bool := allT (putS w.size (putP (cov w u) (bord (seedP w u) (u.size - 1))) (bord (seedS w u) (u.size - 1)))
theorem putP_length (c : List Bool) (o : Option Nat) : (putP c o).length = c.length := by cases o <;> simp [putP, setR_length]
theorem putS_length (n : Nat) (c : List Bool) (o : Option Nat) : (putS n c o).length = c.length := by cases o <;> simp [putS, setR_length]

/-! ### the reference -/
theorem s_l1 (w u : ByteArray) (m : Nat) (hm : m ≤ 60) : ∀ (d k i : Nat) (c : List Bool), i + d = m → m ≤ c.length → spec_l09Seed.l1 (k + d + 1) w u c (m : Int) (i : Int) = spec_l09Seed.j2 k w u (setR d i c) := by
 intro d
 induction d with
 | zero =>
  intro k i c hd hc
  simp only [spec_l09Seed.l1]; rw [if_neg (by omega)]; rfl
 | succ d ih =>
  intro k i c hd hc
  obtain ⟨q, hq⟩ : ∃ q, q = k + d + 1 := ⟨_, rfl⟩
  rw [show k + (d + 1) + 1 = q + 1 by omega]
  simp only [spec_l09Seed.l1]
  rw [if_pos (by omega), if_pos (by omega), if_pos (by omega), wrap_succ (by omega), Int.toNat_natCast]
  subst hq
  rw [ih k (i + 1) _ (by omega) (by rw [List.length_set]; exact hc)]; rfl
theorem s_l0 (w u : ByteArray) (hu : u.size ≤ w.size) (hw : w.size ≤ 60) : ∀ (m k : Nat) (c : List Bool), m < u.size → c.length = w.size → ∃ k', k ≤ k' ∧ spec_l09Seed.l0 (k + m + 100) w u c (m : Int) = spec_l09Seed.j2 k' w u (putP c (bord (seedP w u) m)) := by
 intro m
 induction m with
 | zero =>
  intro k c hm hc
  refine ⟨k + 99, by omega, ?_⟩
  rw [show k + 0 + 100 = (k + 99) + 1 by omega]
  generalize k + 99 = q
  simp only [spec_l09Seed.l0]; rw [if_neg (by omega)]; rfl
 | succ m ih =>
  intro k c hm hc
  rw [show k + (m + 1) + 100 = (k + m + 100) + 1 by omega]
  obtain ⟨q, hq⟩ : ∃ q, q = k + m + 100 := ⟨_, rfl⟩
  rw [← hq]
  simp only [spec_l09Seed.l0, ba_toList_inj]
  rw [wrap_nat (x := (u.size : Int) - ((m + 1 : Nat) : Int)) (n := u.size - (m + 1)) (by omega) (by omega), wrap_nat (x := ((m + 1 : Nat) : Int) - 1) (n := m) (by omega) (by omega), if_pos (by omega), if_pos (by omega), if_pos (by omega), if_pos (by omega), if_pos (by omega), Int.toNat_natCast, Int.toNat_natCast]
  by_cases e : w.extract 0 (m + 1) = u.extract (u.size - (m + 1)) u.size
  ·
   refine ⟨k + 98, by omega, ?_⟩
   rw [if_pos e, show q = (k + 98) + (m + 1) + 1 by omega, show (0 : Int) = ((0 : Nat) : Int) from rfl, s_l1 w u (m + 1) (by omega) (m + 1) (k + 98) 0 c (by omega) (by omega), bord, if_pos (by simp [seedP, e])]; rfl
  ·
   rw [if_neg e, hq, bord, if_neg (by simp [seedP, e])]
   exact ih k c (by omega) hc
theorem s_l3 (w : ByteArray) (hw : w.size ≤ 60) : ∀ (d k i : Nat) (c : List Bool), i + d = w.size → c.length = w.size → spec_l09Seed.l3 (k + 100 + d + 1) w c (i : Int) = some (allT (setR d i c)) := by
 intro d
 induction d with
 | zero =>
  intro k i c hd hc
  obtain ⟨q, hq⟩ : ∃ q, q = k + 100 := ⟨_, rfl⟩
  rw [show k + 100 + 0 + 1 = q + 1 by omega]
  simp only [spec_l09Seed.l3]
  rw [if_neg (by omega), count_f c (by omega) _ (by omega)]
  simp only [Option.bind_some, setR]
  rw [← hc, count_all]
 | succ d ih =>
  intro k i c hd hc
  obtain ⟨q, hq⟩ : ∃ q, q = k + 100 + d + 1 := ⟨_, rfl⟩
  rw [show k + 100 + (d + 1) + 1 = q + 1 by omega]
  simp only [spec_l09Seed.l3]
  rw [if_pos (by omega), if_pos (by omega), if_pos (by omega), wrap_succ (by omega), Int.toNat_natCast]
  subst hq
  rw [ih k (i + 1) _ (by omega) (by rw [List.length_set]; exact hc)]; rfl
theorem s_l2 (w u : ByteArray) (hu : u.size ≤ w.size) (hw : w.size ≤ 60) : ∀ (m k : Nat) (c : List Bool), m < u.size → c.length = w.size → 300 + m < k → spec_l09Seed.l2 k w u c (m : Int) = some (allT (putS w.size c (bord (seedS w u) m))) := by
 intro m
 induction m with
 | zero =>
  intro k c hm hc hk
  obtain ⟨k, rfl⟩ : ∃ n, k = n + 1 := ⟨k - 1, by omega⟩
  simp only [spec_l09Seed.l2]
  rw [if_neg (by omega), count_f c (by omega) _ (by omega)]
  simp only [Option.bind_some, bord, putS]
  rw [← hc, count_all]
 | succ m ih =>
  intro k c hm hc hk
  obtain ⟨k, rfl⟩ : ∃ n, k = n + 1 := ⟨k - 1, by omega⟩
  simp only [spec_l09Seed.l2, ba_toList_inj]
  rw [wrap_nat (x := (w.size : Int) - ((m + 1 : Nat) : Int)) (n := w.size - (m + 1)) (by omega) (by omega), wrap_nat (x := ((m + 1 : Nat) : Int) - 1) (n := m) (by omega) (by omega), if_pos (by omega), if_pos (by omega), if_pos (by omega), if_pos (by omega), if_pos (by omega), Int.toNat_natCast, Int.toNat_natCast]
  by_cases e : w.extract (w.size - (m + 1)) w.size = u.extract 0 (m + 1)
  ·
   rw [if_pos e, show k = (k - 100 - (m + 1) - 1) + 100 + (m + 1) + 1 by omega, s_l3 w hw (m + 1) _ (w.size - (m + 1)) c (by omega) hc, bord, if_pos (by simp [seedS, e])]; rfl
  ·
   rw [if_neg e, bord, if_neg (by simp [seedS, e])]
   exact ih k c (by omega) hc (by omega)
theorem l09Seed_f (w u : ByteArray) (hu : u.size ≤ w.size) (hw : w.size ≤ 60) (h1 : 1 ≤ u.size) (k : Nat) (hk : 20000 < k) : spec_l09Seed.f k w u = some (isSd w u) := by
 unfold spec_l09Seed.f
 rw [spec_places9 w u hw (by omega) k (by omega)]
 simp only [Option.bind_some]
 rw [wrap_nat (n := u.size - 1) (by omega) (by omega), show k = (k - (u.size - 1) - 100) + (u.size - 1) + 100 by omega]
 obtain ⟨k', hk', h⟩ := s_l0 w u hu hw (u.size - 1) (k - (u.size - 1) - 100) (cov w u) (by omega) (cov_length w u)
 rw [h]
 obtain ⟨k', rfl⟩ : ∃ n, k' = n + 1 := ⟨k' - 1, by omega⟩
 simp only [spec_l09Seed.j2]
 rw [wrap_nat (n := u.size - 1) (by omega) (by omega), s_l2 w u hu hw _ k' _ (by omega) (by rw [putP_length, cov_length]) (by omega)]
 rfl

/-! ### the program -/
theorem i_l1 (w u : ByteArray) (m : Nat) (hm : m ≤ 60) : ∀ (d k i : Nat) (c : List Bool), i + d = m → m ≤ c.length → impl_isSeed.l1 (k + d + 1) w u c (m : Int) (i : Int) = impl_isSeed.j2 k w u (setR d i c) := by
 intro d
 induction d with
 | zero =>
  intro k i c hd hc
  simp only [impl_isSeed.l1]; rw [if_neg (by omega)]; rfl
 | succ d ih =>
  intro k i c hd hc
  obtain ⟨q, hq⟩ : ∃ q, q = k + d + 1 := ⟨_, rfl⟩
  rw [show k + (d + 1) + 1 = q + 1 by omega]
  simp only [impl_isSeed.l1]
  rw [if_pos (by omega), if_pos (by omega), if_pos (by omega), wrap_succ (by omega), Int.toNat_natCast]
  subst hq
  rw [ih k (i + 1) _ (by omega) (by rw [List.length_set]; exact hc)]; rfl
theorem i_l0 (w u : ByteArray) (hu : u.size ≤ w.size) (hw : w.size ≤ 60) : ∀ (m k : Nat) (c : List Bool), m < u.size → c.length = w.size → ∃ k', k ≤ k' ∧ impl_isSeed.l0 (k + m + 100) w u c (m : Int) = impl_isSeed.j2 k' w u (putP c (bord (seedP w u) m)) := by
 intro m
 induction m with
 | zero =>
  intro k c hm hc
  refine ⟨k + 99, by omega, ?_⟩
  rw [show k + 0 + 100 = (k + 99) + 1 by omega]
  generalize k + 99 = q
  simp only [impl_isSeed.l0]; rw [if_neg (by omega)]; rfl
 | succ m ih =>
  intro k c hm hc
  rw [show k + (m + 1) + 100 = (k + m + 100) + 1 by omega]
  obtain ⟨q, hq⟩ : ∃ q, q = k + m + 100 := ⟨_, rfl⟩
  rw [← hq]
  have hz : (u.extract (u.size - (m + 1)) u.size).size = m + 1 := by rw [ByteArray.size_extract]; omega
  simp only [impl_isSeed.l0]
  rw [wrap_nat (x := (u.size : Int) - ((m + 1 : Nat) : Int)) (n := u.size - (m + 1)) (by omega) (by omega), wrap_nat (x := ((m + 1 : Nat) : Int) - 1) (n := m) (by omega) (by omega), if_pos (by omega), if_pos (by omega), if_pos (by omega), Int.toNat_natCast, hasPrefix_f _ _ (by omega), hz]
  simp only [Option.bind_some, show m + 1 ≤ w.size by omega, true_and]
  by_cases e : w.extract 0 (m + 1) = u.extract (u.size - (m + 1)) u.size
  ·
   refine ⟨k + 98, by omega, ?_⟩
   rw [if_pos (by simp [e]), show q = (k + 98) + (m + 1) + 1 by omega, show (0 : Int) = ((0 : Nat) : Int) from rfl, i_l1 w u (m + 1) (by omega) (m + 1) (k + 98) 0 c (by omega) (by omega), bord, if_pos (by simp [seedP, e])]; rfl
  ·
   rw [if_neg (by simp [e]), hq, bord, if_neg (by simp [seedP, e])]
   exact ih k c (by omega) hc
/-- The last places of n are marked, from the last one down. -/
def setD (n : Nat) : Nat → Nat → List Bool → List Bool
 | 0, _, c => c
 | d + 1, i, c => setD n d (i + 1) (c.set (n - 1 - i) true)
theorem setD_length (n : Nat) : ∀ d i c, (setD n d i c).length = c.length
 | 0, _, _ => rfl
 | d + 1, i, c => by rw [setD, setD_length n d, List.length_set]
theorem setD_get (n : Nat) : ∀ (d i : Nat) (c : List Bool) (j : Nat), i + d ≤ n → c.length = n → (setD n d i c).getD j false = (c.getD j false || decide (n - (i + d) ≤ j ∧ j < n - i))
 | 0, i, c, j, h, hc => by rw [setD, decide_eq_false (by omega)]; simp
 | d + 1, i, c, j, h, hc => by
  rw [setD, setD_get n d (i + 1) _ j (by omega) (by rw [List.length_set]; exact hc), List.getD_eq_getElem?_getD, List.getD_eq_getElem?_getD, List.getElem?_set]
  by_cases e : n - 1 - i = j
  ·
   subst e
   rw [decide_eq_true (show n - (i + (d + 1)) ≤ n - 1 - i ∧ n - 1 - i < n - i by omega), if_pos rfl, if_pos (by omega)]; simp
  ·
   rw [if_neg e]
   congr 1
   rw [decide_eq_decide]; omega
theorem setD_eq (n m : Nat) (c : List Bool) (hc : c.length = n) (hm : m ≤ n) : setD n m 0 c = setR m (n - m) c := by
 refine List.ext_getElem (by rw [setD_length, setR_length]) fun j h1 h2 => ?_
 rw [setD_length] at h1
 have e1 := setD_get n m 0 c j (by omega) hc
 have e2 := setR_get m (n - m) c j
 rw [List.getD_eq_getElem?_getD, List.getElem?_eq_getElem (by rw [setD_length]; exact h1)] at e1
 rw [List.getD_eq_getElem?_getD, List.getElem?_eq_getElem h2] at e2
 simp only [Option.getD_some] at e1 e2
 rw [e1, e2]
 congr 1
 rw [decide_eq_decide]; omega
theorem i_l3 (w : ByteArray) (hw : w.size ≤ 60) (m : Nat) (hm : m ≤ w.size) : ∀ (d k i : Nat) (c : List Bool), i + d = m → c.length = w.size → impl_isSeed.l3 (k + 100 + d + 1) w c (m : Int) (i : Int) = some (allT (setD w.size d i c)) := by
 intro d
 induction d with
 | zero =>
  intro k i c hd hc
  obtain ⟨q, hq⟩ : ∃ q, q = k + 100 := ⟨_, rfl⟩
  rw [show k + 100 + 0 + 1 = q + 1 by omega]
  simp only [impl_isSeed.l3]
  rw [if_neg (by omega), containsB_f c (by omega) _ (by omega)]
  simp only [Option.bind_some, setD, Bool.not_not]
 | succ d ih =>
  intro k i c hd hc
  obtain ⟨q, hq⟩ : ∃ q, q = k + 100 + d + 1 := ⟨_, rfl⟩
  rw [show k + 100 + (d + 1) + 1 = q + 1 by omega]
  simp only [impl_isSeed.l3]
  rw [wrap_nat (x := (w.size : Int) - 1) (n := w.size - 1) (by omega) (by omega), wrap_nat (n := w.size - 1 - i) (by omega) (by omega), if_pos (by omega), if_pos (by omega), if_pos (by omega), wrap_succ (by omega), Int.toNat_natCast]
  subst hq
  rw [ih k (i + 1) _ (by omega) (by rw [List.length_set]; exact hc)]; rfl
theorem i_l2 (w u : ByteArray) (hu : u.size ≤ w.size) (hw : w.size ≤ 60) : ∀ (m k : Nat) (c : List Bool), m < u.size → c.length = w.size → 300 + m < k → impl_isSeed.l2 k w u c (m : Int) = some (allT (putS w.size c (bord (seedS w u) m))) := by
 intro m
 induction m with
 | zero =>
  intro k c hm hc hk
  obtain ⟨k, rfl⟩ : ∃ n, k = n + 1 := ⟨k - 1, by omega⟩
  simp only [impl_isSeed.l2]
  rw [if_neg (by omega), containsB_f c (by omega) _ (by omega)]
  simp only [Option.bind_some, bord, putS, Bool.not_not]
 | succ m ih =>
  intro k c hm hc hk
  obtain ⟨k, rfl⟩ : ∃ n, k = n + 1 := ⟨k - 1, by omega⟩
  have hz : (u.extract 0 (m + 1)).size = m + 1 := by rw [ByteArray.size_extract]; omega
  simp only [impl_isSeed.l2]
  rw [wrap_nat (x := ((m + 1 : Nat) : Int) - 1) (n := m) (by omega) (by omega), if_pos (by omega), if_pos (by omega), if_pos (by omega), Int.toNat_natCast, hasSuffix_f _ _ (by omega), hz]
  simp only [Option.bind_some, show m + 1 ≤ w.size by omega, true_and]
  by_cases e : w.extract (w.size - (m + 1)) w.size = u.extract 0 (m + 1)
  ·
   rw [if_pos (by simp [e]), show k = (k - 100 - (m + 1) - 1) + 100 + (m + 1) + 1 by omega, show (0 : Int) = ((0 : Nat) : Int) from rfl, i_l3 w hw (m + 1) (by omega) (m + 1) _ 0 c (by omega) hc, setD_eq w.size (m + 1) c hc (by omega), bord, if_pos (by simp [seedS, e])]; rfl
  ·
   rw [if_neg (by simp [e]), bord, if_neg (by simp [seedS, e])]
   exact ih k c (by omega) hc (by omega)
theorem isSeed_f (w u : ByteArray) (hu : u.size ≤ w.size) (hw : w.size ≤ 60) (hu1 : isW u = true) (h1 : 1 ≤ u.size) (k : Nat) (hk : 20000 < k) : impl_isSeed.f k w u = some (isSd w u) := by
 unfold impl_isSeed.f
 rw [covered_one w u hw hu1 k (by omega)]
 simp only [Option.bind_some]
 rw [wrap_nat (n := u.size - 1) (by omega) (by omega), show k = (k - (u.size - 1) - 100) + (u.size - 1) + 100 by omega]
 obtain ⟨k', hk', h⟩ := i_l0 w u hu hw (u.size - 1) (k - (u.size - 1) - 100) (cov w u) (by omega) (cov_length w u)
 rw [h]
 obtain ⟨k', rfl⟩ : ∃ n, k' = n + 1 := ⟨k' - 1, by omega⟩
 simp only [impl_isSeed.j2]
 rw [wrap_nat (n := u.size - 1) (by omega) (by omega), i_l2 w u hu hw _ k' _ (by omega) (by rw [putP_length, cov_length]) (by omega)]
 rfl

/-- The seeds of a length, in order. -/
def sds (w : ByteArray) (m : Nat) : List ByteArray := (fac w m).filter fun u => isSd w u
theorem fac_of {w u : ByteArray} {m : Nat} (h : u ∈ fac w m) : u.size = m ∧ m ≤ w.size ∧ ∃ i j, u = w.extract i j := by
 obtain ⟨j, h1, rfl⟩ := (mem_fac w m u).1 h
 exact ⟨by rw [ByteArray.size_extract]; omega, by omega, _, _, rfl⟩
theorem sds_length (w : ByteArray) (m : Nat) : (sds w m).length ≤ w.size + 1 := by
 have h1 := List.length_filter_le (fun u => isSd w u) (fac w m)
 have h2 := fac_length_le w m
 unfold sds; omega

theorem seeds_loop (w : ByteArray) (hw : w.size ≤ 60) (m : Nat) (hm : 1 ≤ m) : ∀ (d k i : Nat) (acc : List ByteArray), i + d = (fac w m).length → acc.length ≤ i → 30000 + d < k →
  spec_l09Seeds.l0 k w (fac w m) acc (i : Int) = some (acc ++ ((fac w m).drop i).filter fun u => isSd w u) := by
 have hl := fac_length_le w m
 intro d
 induction d with
 | zero =>
  intro k i acc hd ha hk
  obtain ⟨k, rfl⟩ : ∃ n, k = n + 1 := ⟨k - 1, by omega⟩
  simp only [spec_l09Seeds.l0]
  rw [if_neg (by omega), List.drop_eq_nil_of_le (by omega)]; simp
 | succ d ih =>
  intro k i acc hd ha hk
  obtain ⟨k, rfl⟩ : ∃ n, k = n + 1 := ⟨k - 1, by omega⟩
  obtain ⟨h1, h2, _⟩ := fac_of (List.getElem_mem (l := fac w m) (n := i) (by omega))
  simp only [spec_l09Seeds.l0]
  rw [if_pos (by omega), if_pos (by omega), rdOf_nat _ _ _ (by omega), l09Seed_f w _ (by omega) hw (by omega) k (by omega), wrap_succ (by omega), List.drop_eq_getElem_cons (l := fac w m) (i := i) (by omega), List.filter_cons]
  simp only [Option.bind_some]
  by_cases c : isSd w (fac w m)[i] = true
  ·
   rw [if_pos c, if_pos (by omega), if_pos c, ih k (i + 1) _ (by omega) (by simp; omega) (by omega)]; simp
  ·
   rw [if_neg c, if_neg c, ih k (i + 1) _ (by omega) (by omega) (by omega)]
theorem spec_seeds_f (w : ByteArray) (hw : w.size ≤ 60) (m : Nat) (hm : 1 ≤ m) (hm2 : m ≤ 60) (k : Nat) (hk : 40000 < k) : spec_l09Seeds.f k w (m : Int) = some (sds w m) := by
 have hf : spec_l01Factors.f k w (m : Int) = some (fac w m) := by
  have h := spec_factors_loop w m (by omega) (by omega) (plc w m) (k - plc w m) 0 [] (by omega) rfl (by unfold plc; omega)
  rw [show k - plc w m + plc w m = k by unfold plc; omega, canon_nil] at h
  exact h
 have hl := fac_length_le w m
 unfold spec_l09Seeds.f
 rw [hf]
 simp only [Option.bind_some]
 rw [show (0 : Int) = ((0 : Nat) : Int) from rfl, seeds_loop w hw m hm (fac w m).length k 0 [] (by omega) (by simp) (by omega)]
 rfl
theorem impl_seeds_f (w : ByteArray) (hw : isW w = true) (m : Nat) (hm : 1 ≤ m) (hm2 : m ≤ 60) (k : Nat) (hk : 40000 < k) : impl_seeds.f k w (m : Int) = some (sds w m) := by
 have hs := isW_size hw
 have hf : impl_factors.f k w (m : Int) = some (fac w m) := by
  have h := impl_factors_loop w m (by omega) (by omega) (plc w m) k 0 [] (by omega) rfl (by unfold plc; omega)
  exact h
 unfold impl_seeds.f
 rw [hf]
 simp only [Option.bind_some]
 have h : slices_DeleteFunc_string_string.f k (fac w m) (fun z0_ => impl_seeds_1.f k z0_ w) = some (sds w m) := by
  show filterP _ _ = _
  rw [filterP_some (q := fun u => !isSd w u) _ (fun u hu => by
   obtain ⟨h1, h2, i, j, h3⟩ := fac_of hu
   show impl_seeds_1.f k u w = _
   unfold impl_seeds_1.f
   rw [isSeed_f w u (by omega) hs (by rw [h3]; exact isW_extract hw _ _) (by omega) k (by omega)]; rfl)]
  simp only [Bool.not_not]; rfl
 rw [h]; rfl

theorem l09Length_ev (w : ByteArray) (m : Int) (hw : w.size ≤ 9000000000000000000) : Ev (fun k => spec_l09Length.f k w m) (codeW (inR m 1 60) [w]) := by
 unfold spec_l09Length.f
 refine ev_bnd (l01Is_ev w hw) ?_
 simp only [l01In_f, Option.bind_some]
 refine ev_of ?_
 unfold codeW
 by_cases h1 : isW w = true <;> by_cases h2 : inR m 1 60 = true <;> simp [h1, h2]

/-! ### a word is a seed of itself -/
theorem setR_true (d i : Nat) (out : List Bool) (j : Nat) (h : out.getD j false = true) : (setR d i out).getD j false = true := by rw [setR_get, h]; rfl
theorem isSd_self (w : ByteArray) : isSd w w = true := by
 have hc := isC_self w
 refine allT_of fun j hj => ?_
 rw [putS_length, putP_length] at hj
 have h0 := allT_get (show allT (cov w w) = true from hc) j hj
 have h1 : (putP (cov w w) (bord (seedP w w) (w.size - 1))).getD j false = true := by
  cases bord (seedP w w) (w.size - 1) with
  | none => exact h0
  | some m => exact setR_true _ _ _ _ h0
 cases bord (seedS w w) (w.size - 1) with
 | none => exact h1
 | some m => exact setR_true _ _ _ _ h1
theorem fac_whole (w : ByteArray) : fac w w.size = [w] := by
 refine SS_uniq (fac_SS w _) (List.pairwise_singleton _ _) fun x => ?_
 rw [mem_fac, List.mem_singleton]
 constructor
 ·
  rintro ⟨j, h1, rfl⟩
  obtain rfl : j = 0 := by omega
  rw [Nat.zero_add, extract_all]
 ·
  rintro rfl; exact ⟨0, by omega, by rw [Nat.zero_add, extract_all]⟩
theorem sds_whole (w : ByteArray) : sds w w.size = [w] := by
 unfold sds; rw [fac_whole]; simp [isSd_self]

end Go.Proofs.YtcfphjjdbccnoaaGreat.PF
