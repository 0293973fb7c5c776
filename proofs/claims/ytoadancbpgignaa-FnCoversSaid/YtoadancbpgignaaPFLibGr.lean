/- A word that grows by a cover: the program's way and the reference's way. -/
import Derived.Test.YtoadancbpgignaaPFLibPl
import Derived.Test.YtoadancbpgignaaPFLibW
import Derived.Test.YtoadancbpgignaaPFGivN
import Derived.Test.YtoadancbpgignaaPFx7
import Derived.Test.YtoadancbpgignaaPFx3
namespace Go.Proofs.Ytoadancbpgignaa.PF
open Go.RowKit Go.Proofs.YtoadancbpgignaaW.PrintWords Go.Proofs.YtoadancbpgignaaW.PrintLast Go.Proofs.YtoadancbpgignaaW.PrintMore
set_option linter.unusedVariables false
set_option linter.unusedSimpArgs false

theorem empty_iff (a : ByteArray) : a.toList = ([] : List UInt8) ↔ a.size = 0 := by
 rw [toList_eq]
 constructor
 ·
  intro h; have := congrArg List.length h; rw [Array.length_toList] at this; exact this
 ·
  intro h; exact List.eq_nil_of_length_eq_zero (by rw [Array.length_toList]; exact h)

/-- Is a number less than a length? -/
def inR (n : Nat) (x : Int) : Bool := decide (0 ≤ x) && decide (x ≤ (n : Int) - 1)
/-- Does the word begin with its end of so many letters? -/
def bordG (u : ByteArray) (x : Nat) : Bool := decide (u.extract 0 x = u.extract (u.size - x) u.size)
def totL (n : Nat) : List Nat → Nat
 | [] => 0
 | x :: l => (n - x) + totL n l
def bldL (u : ByteArray) : List Nat → ByteArray → ByteArray
 | [], out => out
 | x :: l, out => bldL u l (out ++ u.extract x u.size)
/-- What comes out of numbers that are in range. -/
def grow (u : ByteArray) (l : List Nat) : ByteArray × Int := if l.all (bordG u) = true then (if u.size + totL u.size l > 60 then (⟨#[]⟩, 3) else (bldL u l u, 0)) else (⟨#[]⟩, 4)

theorem totL_le (n : Nat) : ∀ l, totL n l ≤ l.length * n
 | [] => Nat.zero_le _
 | x :: l => by have := totL_le n l; rw [totL, List.length_cons, Nat.add_mul]; omega
theorem size_suf (u : ByteArray) (x : Nat) : (u.extract x u.size).size = u.size - x := by rw [ByteArray.size_extract]; omega

/-- The numbers as naturals. -/
theorem cast_drop (l : List Nat) (i : Nat) (h : i < l.length) : rd (l.map fun x : Nat => (x : Int)) (i : Int) = ((l[i] : Nat) : Int) := by
 rw [rd_nat _ i (by rw [List.length_map]; exact h), List.getElem_map]

theorem spec_g1 (u : ByteArray) (hu : u.size ≤ 60) (l : List Nat) (hll : l.length ≤ 2000000) (hl : ∀ x ∈ l, x < u.size) (K : Nat) (R : ByteArray × Int) (hR : ∀ k, K < k → spec_GrowByCover.l2 k u (l.map fun x : Nat => (x : Int)) (u.size : Int) u 0 = some R) :
  ∀ (d k i : Nat), i + d = l.length → d + K + 1 < k → spec_GrowByCover.l1 k u (l.map fun x : Nat => (x : Int)) (u.size : Int) (i : Int) = some (if (l.drop i).all (bordG u) = true then R else (⟨#[]⟩, 4)) := by
 intro d
 induction d with
 | zero =>
  intro k i hd hk
  obtain ⟨k, rfl⟩ : ∃ n, k = n + 1 := ⟨k - 1, by omega⟩
  simp only [spec_GrowByCover.l1]
  rw [if_neg (by rw [List.length_map]; omega), List.drop_eq_nil_of_le (by omega), List.all_nil, if_pos rfl, hR k (by omega)]
 | succ d ih =>
  intro k i hd hk
  obtain ⟨k, rfl⟩ : ∃ n, k = n + 1 := ⟨k - 1, by omega⟩
  have hi : i < l.length := by omega
  have hx := hl _ (List.getElem_mem hi)
  have e := cast_drop l i hi
  have hih := ih k (i + 1) (by omega) (by omega)
  rw [List.drop_eq_getElem_cons hi, List.all_cons]
  generalize l[i] = x at e hx
  have a1 : (i : Int) < ((l.map fun x : Nat => (x : Int)).length : Int) := by rw [List.length_map]; omega
  have a2 : (0 : Int) ≤ (i : Int) := by omega
  have a3 : (0 : Int) ≤ (x : Int) := by omega
  have a4 : (x : Int) ≤ (u.size : Int) := by omega
  have a5 : (0 : Int) ≤ ((u.size - x : Nat) : Int) := by omega
  have a6 : ((u.size - x : Nat) : Int) ≤ (u.size : Int) := by omega
  simp only [spec_GrowByCover.l1]
  rw [if_pos a1, if_pos a2, e, show wrap64 ((u.size : Int) - (x : Int)) = ((u.size - x : Nat) : Int) from wrap_nat (by omega) (by omega), if_pos a3, if_pos a4, if_pos a5, if_pos a6, Int.toNat_natCast, Int.toNat_natCast]
  by_cases c : u.extract 0 x = u.extract (u.size - x) u.size
  ·
   rw [if_pos (by rw [c]), show bordG u x = true from decide_eq_true c, Bool.true_and, show wrap64 ((i : Int) + 1) = ((i + 1 : Nat) : Int) from wrap_succ (by omega), hih]
  ·
   rw [if_neg (fun g => c (ba_inj.1 g)), show bordG u x = false from decide_eq_false c, Bool.false_and, if_neg (by decide)]

theorem spec_g2 (u : ByteArray) (hu : u.size ≤ 60) (l : List Nat) (hll : l.length ≤ 2000000) (hl : ∀ x ∈ l, x < u.size) :
  ∀ (d k i : Nat) (out : ByteArray), i + d = l.length → out.size ≤ 60 → d < k → spec_GrowByCover.l2 k u (l.map fun x : Nat => (x : Int)) (u.size : Int) out (i : Int) = some (if out.size + totL u.size (l.drop i) > 60 then (⟨#[]⟩, 3) else (bldL u (l.drop i) out, 0)) := by
 intro d
 induction d with
 | zero =>
  intro k i out hd ho hk
  obtain ⟨k, rfl⟩ : ∃ n, k = n + 1 := ⟨k - 1, by omega⟩
  simp only [spec_GrowByCover.l2]
  rw [if_neg (by rw [List.length_map]; omega), List.drop_eq_nil_of_le (by omega), totL, if_neg (by omega)]; rfl
 | succ d ih =>
  intro k i out hd ho hk
  obtain ⟨k, rfl⟩ : ∃ n, k = n + 1 := ⟨k - 1, by omega⟩
  have hi : i < l.length := by omega
  have hx := hl _ (List.getElem_mem hi)
  have e := cast_drop l i hi
  rw [List.drop_eq_getElem_cons hi]
  generalize l[i] = x at e hx
  have hsz := size_suf u x
  have a1 : (i : Int) < ((l.map fun x : Nat => (x : Int)).length : Int) := by rw [List.length_map]; omega
  have a2 : (0 : Int) ≤ (i : Int) := by omega
  have a3 : (0 : Int) ≤ (x : Int) := by omega
  have a4 : (x : Int) ≤ (u.size : Int) := by omega
  have a5 : out.size + (u.extract x u.size).size ≤ 9223372036854775807 := by omega
  simp only [spec_GrowByCover.l2]
  rw [if_pos a1, if_pos a2, e, show wrap64 ((out.size : Int) + (u.size : Int)) = ((out.size + u.size : Nat) : Int) from wrap_nat (by omega) (by omega), show wrap64 (((out.size + u.size : Nat) : Int) - (x : Int)) = ((out.size + (u.size - x) : Nat) : Int) from wrap_nat (by omega) (by omega), totL]
  clear e
  by_cases c : out.size + (u.size - x) > 60
  ·
   rw [if_pos (by omega), if_pos (by omega)]
  ·
   rw [if_neg (by omega), if_pos a3, if_pos a4, Int.toNat_natCast, if_pos a5, show wrap64 ((i : Int) + 1) = ((i + 1 : Nat) : Int) from wrap_succ (by omega), ih k (i + 1) _ (by omega) (by rw [ByteArray.size_append]; omega) (by omega), ByteArray.size_append, hsz, bldL, Nat.add_assoc]

theorem spec_grow (u : ByteArray) (hu : u.size ≤ 60) (l : List Nat) (hll : l.length ≤ 2000000) (hl : ∀ x ∈ l, x < u.size) (k : Nat) (hk : 2 * l.length + 10 < k) :
  spec_GrowByCover.l1 k u (l.map fun x : Nat => (x : Int)) (u.size : Int) 0 = some (grow u l) := by
 have h2 := fun k hk => spec_g2 u hu l hll hl l.length k 0 u (by omega) hu hk
 have h := spec_g1 u hu l hll hl l.length _ h2 l.length k 0 (by omega) (by omega)
 rw [List.drop_zero] at h
 exact h

theorem impl_g1 (u : ByteArray) (hu : u.size ≤ 60) (l : List Nat) (hll : l.length ≤ 2000000) (hl : ∀ x ∈ l, x < u.size) :
  ∀ (d k i : Nat) (out : ByteArray), i + d = l.length → out.size + totL u.size (l.drop i) ≤ 60 → d < k → impl_GrowByCover.l1 k out (l.map fun x : Nat => (x : Int)) (l.length : Int) (i : Int) u = some (bldL u (l.drop i) out, 0) := by
 intro d
 induction d with
 | zero =>
  intro k i out hd ho hk
  obtain ⟨k, rfl⟩ : ∃ n, k = n + 1 := ⟨k - 1, by omega⟩
  simp only [impl_GrowByCover.l1]
  rw [if_neg (by omega), List.drop_eq_nil_of_le (by omega)]; rfl
 | succ d ih =>
  intro k i out hd ho hk
  obtain ⟨k, rfl⟩ : ∃ n, k = n + 1 := ⟨k - 1, by omega⟩
  have hi : i < l.length := by omega
  have hx := hl _ (List.getElem_mem hi)
  have e := cast_drop l i hi
  rw [List.drop_eq_getElem_cons hi] at ho ⊢
  generalize l[i] = x at e hx ho
  rw [totL] at ho
  have hsz := size_suf u x
  have a1 : (i : Int) < (l.length : Int) := by omega
  have a1' : (i : Int) < ((l.map fun x : Nat => (x : Int)).length : Int) := by rw [List.length_map]; omega
  have a2 : (0 : Int) ≤ (i : Int) := by omega
  have a3 : (0 : Int) ≤ (x : Int) := by omega
  have a4 : (x : Int) ≤ (u.size : Int) := by omega
  have a5 : out.size + (u.extract x u.size).size ≤ 9223372036854775807 := by omega
  simp only [impl_GrowByCover.l1]
  rw [if_pos a1, if_pos a2, if_pos a1', e, if_pos a3, if_pos a4, Int.toNat_natCast, if_pos a5, show wrap64 ((i : Int) + 1) = ((i + 1 : Nat) : Int) from wrap_succ (by omega), ih k (i + 1) _ (by omega) (by rw [ByteArray.size_append, hsz]; omega) (by omega), bldL]

theorem impl_g0 (u : ByteArray) (hu : u.size ≤ 60) (l : List Nat) (hll : l.length ≤ 2000000) (hl : ∀ x ∈ l, x < u.size) :
  ∀ (d k i all : Nat), i + d = l.length → all + totL u.size (l.drop i) = u.size + totL u.size l → d + l.length + 2 < k → impl_GrowByCover.l0 k (all : Int) (l.map fun x : Nat => (x : Int)) (l.length : Int) (i : Int) u (l.map fun x : Nat => (x : Int)) =
   some (if (l.drop i).all (bordG u) = true then (if u.size + totL u.size l > 60 then (⟨#[]⟩, 3) else (bldL u l u, 0)) else (⟨#[]⟩, 4)) := by
 have htot := totL_le u.size l
 have hmul : l.length * u.size ≤ 2000000 * 60 := Nat.mul_le_mul hll hu
 intro d
 induction d with
 | zero =>
  intro k i all hd ho hk
  obtain ⟨k, rfl⟩ : ∃ n, k = n + 1 := ⟨k - 1, by omega⟩
  rw [List.drop_eq_nil_of_le (by omega)] at ho ⊢
  rw [totL] at ho
  simp only [impl_GrowByCover.l0]
  rw [if_neg (by omega), List.all_nil, if_pos rfl]
  by_cases c : u.size + totL u.size l > 60
  ·
   rw [if_pos (by omega), if_pos c]
  ·
   have h := impl_g1 u hu l hll hl l.length k 0 u (by omega) (by rw [List.drop_zero]; omega) (by omega)
   rw [List.drop_zero] at h
   rw [if_neg (by omega), if_neg c, List.length_map]
   exact h
 | succ d ih =>
  intro k i all hd ho hk
  obtain ⟨k, rfl⟩ : ∃ n, k = n + 1 := ⟨k - 1, by omega⟩
  have hi : i < l.length := by omega
  have hx := hl _ (List.getElem_mem hi)
  have e := cast_drop l i hi
  rw [List.drop_eq_getElem_cons hi] at ho ⊢
  generalize l[i] = x at e hx ho
  rw [totL] at ho
  rw [List.all_cons]
  have hsz : (u.extract (u.size - x) u.size).size = x := by rw [size_suf]; omega
  have a1 : (i : Int) < (l.length : Int) := by omega
  have a1' : (i : Int) < ((l.map fun x : Nat => (x : Int)).length : Int) := by rw [List.length_map]; omega
  have a2 : (0 : Int) ≤ (i : Int) := by omega
  have a5 : (0 : Int) ≤ ((u.size - x : Nat) : Int) := by omega
  have a6 : ((u.size - x : Nat) : Int) ≤ (u.size : Int) := by omega
  have hih := ih k (i + 1) (all + (u.size - x)) (by omega) (by omega) (by omega)
  have hp : strings_HasPrefix.f u (u.extract (u.size - x) u.size) = some (bordG u x) := by
   rw [hasPrefix_f u _ (by omega), hsz]
   congr 1
   exact decide_eq_decide.2 ⟨fun h => h.2, fun h => ⟨by omega, h⟩⟩
  simp only [impl_GrowByCover.l0, impl_size.f, Option.bind_some]
  rw [if_pos a1, if_pos a2, if_pos a1', e, show wrap64 ((u.size : Int) - (x : Int)) = ((u.size - x : Nat) : Int) from wrap_nat (by omega) (by omega), if_pos a5, if_pos a6, Int.toNat_natCast, hp]
  clear e
  simp only [Option.bind_some]
  cases bordG u x with
  | true => rw [if_pos rfl, show wrap64 ((all : Int) + ((u.size - x : Nat) : Int)) = ((all + (u.size - x) : Nat) : Int) from wrap_nat (by omega) (by omega), show wrap64 ((i : Int) + 1) = ((i + 1 : Nat) : Int) from wrap_succ (by omega), hih, Bool.true_and]
  | false => rw [if_neg (by decide), Bool.false_and, if_neg (by decide)]

theorem impl_grow (u : ByteArray) (hu : u.size ≤ 60) (l : List Nat) (hll : l.length ≤ 2000000) (hl : ∀ x ∈ l, x < u.size) (k : Nat) (hk : 2 * l.length + 10 < k) :
  impl_GrowByCover.l0 k (u.size : Int) (l.map fun x : Nat => (x : Int)) ((l.map fun x : Nat => (x : Int)).length : Int) 0 u (l.map fun x : Nat => (x : Int)) = some (grow u l) := by
 rw [List.length_map]
 have h := impl_g0 u hu l hll hl l.length k 0 u.size (by omega) (by rw [List.drop_zero]) (by omega)
 rw [List.drop_zero] at h
 exact h

theorem spec_g0 (u : ByteArray) (hu : u.size ≤ 60) (l : List Int) (hll : l.length ≤ 2000000) (K : Nat) (R : ByteArray × Int) (hR : l.all (inR u.size) = true → ∀ k, K < k → spec_GrowByCover.l1 k u l (u.size : Int) 0 = some R) (hi0 : l.all (inR u.size) = false ∨ l.all (inR u.size) = true) :
  ∀ (d k i : Nat), i + d = l.length → (l.take i).all (inR u.size) = true → d + K + 1 < k → spec_GrowByCover.l0 k u l (u.size : Int) (i : Int) = some (if (l.drop i).all (inR u.size) = true then R else (⟨#[]⟩, 2)) := by
 intro d
 induction d with
 | zero =>
  intro k i hd ht hk
  obtain ⟨k, rfl⟩ : ∃ n, k = n + 1 := ⟨k - 1, by omega⟩
  rw [List.take_of_length_le (by omega)] at ht
  simp only [spec_GrowByCover.l0]
  rw [if_neg (by omega), List.drop_eq_nil_of_le (by omega), List.all_nil, if_pos rfl, hR ht k (by omega)]
 | succ d ih =>
  intro k i hd ht hk
  obtain ⟨k, rfl⟩ : ∃ n, k = n + 1 := ⟨k - 1, by omega⟩
  have hi : i < l.length := by omega
  have e : rd l (i : Int) = l[i] := rd_nat l i hi
  have hin : spec_l01In.f l[i] 0 ((u.size : Int) - 1) = some (inR u.size l[i]) := by
   unfold spec_l01In.f inR
   by_cases h : (0 : Int) ≤ l[i]
   ·
    rw [if_pos h, decide_eq_true h, Bool.true_and]
   ·
    rw [if_neg h, decide_eq_false h, Bool.false_and]
  simp only [spec_GrowByCover.l0]
  rw [if_pos (by omega), if_pos (by omega), e, show wrap64 ((u.size : Int) - 1) = (u.size : Int) - 1 from wrap_id (by omega) (by omega), hin, List.drop_eq_getElem_cons hi, List.all_cons]
  simp only [Option.bind_some]
  cases hb : inR u.size l[i] with
  | true =>
   rw [if_pos rfl, show wrap64 ((i : Int) + 1) = ((i + 1 : Nat) : Int) from wrap_succ (by omega), ih k (i + 1) (by omega) (by rw [List.take_succ_eq_append_getElem hi, List.all_append, ht, List.all_cons, hb]; rfl) (by omega), Bool.true_and]
  | false => rw [if_neg (by decide), Bool.false_and, if_neg (by decide)]

theorem grow1_f (u : ByteArray) (hu : u.size ≤ 60) (l : List Int) (k : Nat) : impl_GrowByCover_1.f k u l = some (decide (u.size ≠ 0) && l.all (inR u.size)) := by
 unfold impl_GrowByCover_1.f
 by_cases h : u.size = 0
 ·
  rw [if_pos ((empty_iff u).2 h), decide_eq_false (by simp [h]), Bool.false_and]
 ·
  rw [if_neg (fun e => h ((empty_iff u).1 e)), decide_eq_true h, Bool.true_and]
  have hp : (fun z0_ => impl_GrowByCover_1_1.f z0_ u) = fun x => some (inR u.size x) := by
   funext x
   unfold impl_GrowByCover_1_1.f impl_size.f impl_within.f inR
   simp only [Option.bind_some]
   rw [wrap_id (x := (u.size : Int) - 1) (by omega) (by omega)]
   by_cases h : (0 : Int) ≤ x
   ·
    rw [if_pos h, decide_eq_true h, Bool.true_and]; rfl
   ·
    rw [if_neg h, decide_eq_false h, Bool.false_and]; rfl
  unfold impl_areAll_int64.f
  rw [hp, allP_some]; rfl

end Go.Proofs.Ytoadancbpgignaa.PF
