/- Standard words of lists: the program's way and the reference's way. -/
import Derived.Test.YtippkbjdifmdnaaPFLibE
import Derived.Test.YtippkbjdifmdnaaPFGivT
import Derived.Test.YtippkbjdifmdnaaPFx8
import Derived.Test.YtippkbjdifmdnaaPFx3
namespace Go.Proofs.Ytippkbjdifmdnaa.PF
open Go.RowKit Go.Proofs.YtippkbjdifmdnaaW.PrintWords Go.Proofs.YtippkbjdifmdnaaW.PrintLast Go.Proofs.YtippkbjdifmdnaaW.PrintMore
set_option linter.unusedVariables false
set_option linter.unusedSimpArgs false
set_option maxRecDepth 20000

theorem rep_size (s : ByteArray) (n : Nat) : (rep s n).size = s.size * n := by
  have h := Lib.repeatL_length s.data.toList n
  have e : (rep s n).size = (Lib.repeatL s.data.toList n).length := by unfold rep; simp [ByteArray.size]
  rw [e, h, Array.length_toList, Nat.mul_comm]; rfl
theorem rep_succ (s : ByteArray) (n : Nat) : rep s (n + 1) = rep s n ++ s := by
  refine ba_ext ?_
  rw [ByteArray.data_append, Array.toList_append]
  unfold rep
  rw [Lib.repeatL_add, Lib.repeatL_one]
theorem rep_zero (s : ByteArray) : rep s 0 = (⟨#[]⟩ : ByteArray) := rfl

/-- The standard word of the rest of a list, if no word gets too long. -/
def stdO : List Nat → ByteArray → ByteArray → Option ByteArray
  | [], _, n => some n
  | d :: l, b, n => if n.size * d + b.size > 60 then none else stdO l n (rep n d ++ b)

theorem cast_at (l : List Nat) (i : Nat) (h : i < l.length) : rd (l.map fun x : Nat => (x : Int)) (i : Int) = ((l[i] : Nat) : Int) := by
  rw [rd_nat _ i (by rw [List.length_map]; exact h), List.getElem_map]

theorem impl_std (m : List Nat) (hm : m.length ≤ 20) (hx : ∀ x ∈ m, x ≤ 60) : ∀ (e k i : Nat) (b n : ByteArray), i + e = m.length → b.size ≤ 60 → n.size ≤ 60 → e < k →
    impl_StandardWord.l1 k b n (m.map fun x : Nat => (x : Int)) (m.length : Int) (i : Int) = some (match stdO (m.drop i) b n with | some x => (x, 0) | none => (⟨#[]⟩, 3)) := by
  intro e
  induction e with
  | zero =>
    intro k i b n hi hb hn hk
    obtain ⟨k, rfl⟩ : ∃ q, k = q + 1 := ⟨k - 1, by omega⟩
    simp only [impl_StandardWord.l1]
    rw [if_neg (by omega), List.drop_eq_nil_of_le (by omega)]; rfl
  | succ e ih =>
    intro k i b n hi hb hn hk
    obtain ⟨k, rfl⟩ : ∃ q, k = q + 1 := ⟨k - 1, by omega⟩
    have hil : i < m.length := by omega
    have hd := hx _ (List.getElem_mem hil)
    have er := cast_at m i hil
    rw [List.drop_eq_getElem_cons hil]
    generalize m[i] = d at er hd
    have hmul : n.size * d ≤ 60 * 60 := Nat.mul_le_mul hn hd
    have hrs := rep_size n d
    have a1 : (i : Int) < (m.length : Int) := by omega
    have a2 : (0 : Int) ≤ (i : Int) := by omega
    have a3 : (i : Int) < ((m.map fun x : Nat => (x : Int)).length : Int) := by rw [List.length_map]; omega
    have a4 : (0 : Int) ≤ (d : Int) ∧ (d : Int) ≤ 9223372036854775807 ∧ n.size * ((d : Int)).toNat ≤ 140737488355328 := ⟨by omega, by omega, by rw [Int.toNat_natCast]; omega⟩
    have a5 : (rep n d).size + b.size ≤ 9223372036854775807 := by omega
    have hrf : strings_Repeat.f n (d : Int) = some (rep n d) := by
      unfold strings_Repeat.f
      rw [if_pos a4, Int.toNat_natCast]
    have a6 : i < 4611686018427387904 := by omega
    have a7 : (i + 1) + e = m.length := by omega
    have a8 : e < k := by omega
    generalize hp : n.size * d = p at hmul hrs
    have a9 : p ≤ 4611686018427387904 := by omega
    have a10 : p + b.size ≤ 4611686018427387904 := by omega
    have a11 : (p : Int) + (b.size : Int) = ((p + b.size : Nat) : Int) := by omega
    have w2 : wrap64 ((p : Int) + (b.size : Int)) = ((p + b.size : Nat) : Int) := wrap_nat a11 a10
    have w1 : wrap64 ((n.size : Int) * (d : Int)) = (p : Int) := by rw [← Int.natCast_mul, hp]; exact wrap_nat rfl a9
    simp only [impl_StandardWord.l1, impl_size.f, Option.bind_some]
    rw [if_pos a1, if_pos a2, if_pos a3, er, w1, w2, hrf]
    simp only [Option.bind_some]
    rw [stdO, hp]
    clear w1 w2 er hrf
    by_cases c : p + b.size > 60
    · rw [if_pos (by omega), if_pos c]
    · rw [if_neg (by omega), if_pos a5, if_neg c, show wrap64 ((i : Int) + 1) = ((i + 1 : Nat) : Int) from wrap_succ a6, ih k (i + 1) n (rep n d ++ b) a7 hn (by rw [ByteArray.size_append, hrs]; omega) a8]

/-- The reference's inner loop where the word gets too long. -/
theorem spec_long (l : List Int) (i d : Nat) (hi : i < l.length) (hll : l.length ≤ 100) (er : rd l (i : Int) = (d : Int)) (b n : ByteArray) (hb : b.size ≤ 60) (hn : n.size ≤ 60) (hd : d ≤ 60) (hbig : n.size * d + b.size > 60) :
    ∀ (e k j : Nat), j + e = d → n.size * j ≤ 3600 → e < k → spec_l08Standard.l1 k l b n (i : Int) (rep n j) (j : Int) = some (⟨#[]⟩, false) := by
  have a1 : (0 : Int) ≤ (i : Int) := by omega
  have a2 : (i : Int) < (l.length : Int) := by omega
  intro e
  induction e with
  | zero =>
    intro k j hj hs hk
    obtain ⟨k, rfl⟩ : ∃ q, k = q + 1 := ⟨k - 1, by omega⟩
    obtain rfl : j = d := by omega
    have hrs := rep_size n j
    have a3 : ¬ (j : Int) < (j : Int) := by omega
    have a4 : (rep n j).size + b.size ≤ 9223372036854775807 := by omega
    have a5 : ((rep n j ++ b).size : Int) > 60 := by rw [ByteArray.size_append]; omega
    simp only [spec_l08Standard.l1]
    rw [if_pos a1, if_pos a2, er, if_neg a3, if_pos a4, if_pos a5]
  | succ e ih =>
    intro k j hj hs hk
    obtain ⟨k, rfl⟩ : ∃ q, k = q + 1 := ⟨k - 1, by omega⟩
    have hrs := rep_size n j
    have a3 : (j : Int) < (d : Int) := by omega
    have a4 : (rep n j).size + b.size ≤ 9223372036854775807 := by omega
    have a6 : (rep n j).size + n.size ≤ 9223372036854775807 := by omega
    have a7 : j < 4611686018427387904 := by omega
    have a8 : (j + 1) + e = d := by omega
    have a9 : n.size * (j + 1) ≤ 3600 := Nat.le_trans (Nat.mul_le_mul hn (by omega : j + 1 ≤ 60)) (by omega)
    have a10 : e < k := by omega
    simp only [spec_l08Standard.l1]
    rw [if_pos a1, if_pos a2, er, if_pos a3]
    by_cases c : (rep n j).size ≤ 60
    · rw [if_pos (by omega), if_pos a6, ← rep_succ, show wrap64 ((j : Int) + 1) = ((j + 1 : Nat) : Int) from wrap_succ a7, ih k (j + 1) a8 a9 a10]
    · rw [if_neg (by omega), if_pos a4, if_pos (by rw [ByteArray.size_append]; omega)]

/-- The reference's inner loop where it does not. -/
theorem spec_short (l : List Int) (i d : Nat) (hi : i < l.length) (hll : l.length ≤ 100) (er : rd l (i : Int) = (d : Int)) (b n : ByteArray) (hd : d ≤ 60) (hsm : n.size * d + b.size ≤ 60) :
    ∀ (e k j : Nat), j + e = d → spec_l08Standard.l1 (k + e + 1) l b n (i : Int) (rep n j) (j : Int) = spec_l08Standard.l0 k l n (rep n d ++ b) ((i + 1 : Nat) : Int) := by
  have a1 : (0 : Int) ≤ (i : Int) := by omega
  have a2 : (i : Int) < (l.length : Int) := by omega
  have a0 : i < 4611686018427387904 := by omega
  intro e
  induction e with
  | zero =>
    intro k j hj
    obtain rfl : j = d := by omega
    have hrs := rep_size n j
    have a3 : ¬ (j : Int) < (j : Int) := by omega
    have a4 : (rep n j).size + b.size ≤ 9223372036854775807 := by omega
    have a5 : ¬ ((rep n j ++ b).size : Int) > 60 := by rw [ByteArray.size_append]; omega
    simp only [spec_l08Standard.l1]
    rw [if_pos a1, if_pos a2, er, if_neg a3, if_pos a4, if_neg a5, show wrap64 ((i : Int) + 1) = ((i + 1 : Nat) : Int) from wrap_succ a0]
  | succ e ih =>
    intro k j hj
    obtain ⟨q, hq⟩ : ∃ q, q = k + e + 1 := ⟨_, rfl⟩
    have hrs := rep_size n j
    have hrs2 := rep_size n (j + 1)
    have hmono : n.size * (j + 1) ≤ n.size * d := Nat.mul_le_mul_left _ (by omega)
    have hmono2 : n.size * j ≤ n.size * d := Nat.mul_le_mul_left _ (by omega)
    have hsucc : n.size * (j + 1) = n.size * j + n.size := Nat.mul_succ _ _
    have a3 : (j : Int) < (d : Int) := by omega
    have a5 : ((rep n j).size : Int) ≤ 60 := by omega
    have a6 : (rep n j).size + n.size ≤ 9223372036854775807 := by omega
    have a7 : j < 4611686018427387904 := by omega
    have a8 : (j + 1) + e = d := by omega
    have hih := ih k (j + 1) a8
    rw [← hq] at hih
    rw [show k + (e + 1) + 1 = q + 1 by rw [hq]; rfl]
    simp only [spec_l08Standard.l1]
    rw [if_pos a1, if_pos a2, er, if_pos a3, if_pos a5, if_pos a6, ← rep_succ, show wrap64 ((j : Int) + 1) = ((j + 1 : Nat) : Int) from wrap_succ a7, hih]

theorem spec_std (m : List Nat) (hm : m.length ≤ 20) (hx : ∀ x ∈ m, x ≤ 60) : ∀ (e k i : Nat) (b n : ByteArray), i + e = m.length → b.size ≤ 60 → n.size ≤ 60 → e * 100 + 100 < k →
    spec_l08Standard.l0 k (m.map fun x : Nat => (x : Int)) b n (i : Int) = some (match stdO (m.drop i) b n with | some x => (x, true) | none => (⟨#[]⟩, false)) := by
  intro e
  induction e with
  | zero =>
    intro k i b n hi hb hn hk
    obtain ⟨k, rfl⟩ : ∃ q, k = q + 1 := ⟨k - 1, by omega⟩
    simp only [spec_l08Standard.l0]
    rw [if_neg (by rw [List.length_map]; omega), List.drop_eq_nil_of_le (by omega)]; rfl
  | succ e ih =>
    intro k i b n hi hb hn hk
    have hil : i < m.length := by omega
    have hd := hx _ (List.getElem_mem hil)
    have er := cast_at m i hil
    rw [List.drop_eq_getElem_cons hil]
    generalize m[i] = d at er hd
    have hl1 : i < (m.map fun x : Nat => (x : Int)).length := by rw [List.length_map]; exact hil
    have hl2 : (m.map fun x : Nat => (x : Int)).length ≤ 100 := by rw [List.length_map]; omega
    have a1 : (i : Int) < ((m.map fun x : Nat => (x : Int)).length : Int) := by rw [List.length_map]; omega
    rw [stdO]
    by_cases c : n.size * d + b.size > 60
    · obtain ⟨k, rfl⟩ : ∃ q, k = q + 1 := ⟨k - 1, by omega⟩
      have h := spec_long _ i d hl1 hl2 er b n hb hn hd c d k 0 (by omega) (by omega) (by omega)
      rw [rep_zero] at h
      simp only [spec_l08Standard.l0]
      rw [if_pos a1, if_pos c]
      exact h
    · obtain ⟨k, rfl⟩ : ∃ q, k = (q + d + 1) + 1 := ⟨k - d - 2, by omega⟩
      have h := spec_short _ i d hl1 hl2 er b n hd (by omega) d k 0 (by omega)
      rw [rep_zero] at h
      have hrs := rep_size n d
      obtain ⟨q, hq⟩ : ∃ q, q = k + d + 1 := ⟨_, rfl⟩
      have hih := ih k (i + 1) n (rep n d ++ b) (by omega) hn (by rw [ByteArray.size_append, hrs]; omega) (by omega)
      rw [← hq] at h ⊢
      simp only [spec_l08Standard.l0]
      rw [if_pos a1, if_neg c]
      exact h.trans hih

/-- Are the numbers from a place on in their ranges? -/
def okD (i : Nat) (x : Int) : Bool := decide ((if i = 0 then 0 else 1) ≤ x) && decide (x ≤ 60)
def okL : Nat → List Int → Bool
  | _, [] => true
  | i, x :: l => okD i x && okL (i + 1) l
theorem okL_nats : ∀ (l : List Int) (i : Nat), okL i l = true → ∃ m : List Nat, l = m.map (fun x : Nat => (x : Int)) ∧ ∀ x ∈ m, x ≤ 60
  | [], _, _ => ⟨[], rfl, fun x hx => by cases hx⟩
  | y :: l, i, h => by
    rw [okL, Bool.and_eq_true] at h
    obtain ⟨m, hm, hm2⟩ := okL_nats l (i + 1) h.2
    have hy := h.1
    simp only [okD, Bool.and_eq_true, decide_eq_true_eq] at hy
    have hy0 : 0 ≤ y := by have := hy.1; split at this <;> omega
    refine ⟨y.toNat :: m, by rw [List.map_cons, ← hm, Int.toNat_of_nonneg hy0], fun x hx => ?_⟩
    rcases List.mem_cons.1 hx with rfl | hx
    · omega
    · exact hm2 x hx

theorem impl_rng (l : List Int) (hl : l.length ≤ 20) (K : Nat) (R : ByteArray × Int) (hR : okL 0 l = true → ∀ k, K < k → impl_StandardWord.l1 k (⟨#[98]⟩ : ByteArray) (⟨#[97]⟩ : ByteArray) l (l.length : Int) 0 = some R) :
    ∀ (e k i : Nat), i + e = l.length → (okL i (l.drop i) = true → okL 0 l = true) → e + K + 1 < k → impl_StandardWord.l0 k l l (l.length : Int) (i : Int) = some (if okL i (l.drop i) = true then R else (⟨#[]⟩, 2)) := by
  intro e
  induction e with
  | zero =>
    intro k i hi hok hk
    obtain ⟨k, rfl⟩ : ∃ q, k = q + 1 := ⟨k - 1, by omega⟩
    have hdr : l.drop i = [] := List.drop_eq_nil_of_le (by omega)
    rw [hdr] at hok ⊢
    simp only [impl_StandardWord.l0]
    rw [if_neg (by omega), show okL i [] = true from rfl, if_pos rfl]
    exact hR (hok rfl) k (by omega)
  | succ e ih =>
    intro k i hi hok hk
    obtain ⟨k, rfl⟩ : ∃ q, k = q + 1 := ⟨k - 1, by omega⟩
    have hil : i < l.length := by omega
    have er : rd l (i : Int) = l[i] := rd_nat l i hil
    rw [List.drop_eq_getElem_cons hil, okL] at hok ⊢
    generalize l[i] = x at er hok
    have a1 : (i : Int) < (l.length : Int) := by omega
    have a2 : (0 : Int) ≤ (i : Int) := by omega
    have a3 : i < 4611686018427387904 := by omega
    have a4 : (i + 1) + e = l.length := by omega
    have a5 : e + K + 1 < k := by omega
    have hw : impl_within.f x (mn (i : Int) 1) 60 = some (okD i x) := by
      have hmn : mn (i : Int) 1 = if i = 0 then 0 else 1 := by unfold mn; split <;> split <;> omega
      unfold impl_within.f okD
      rw [hmn]
      by_cases h : (if i = 0 then (0 : Int) else 1) ≤ x
      · rw [if_pos h, decide_eq_true h, Bool.true_and]
      · rw [if_neg h, decide_eq_false h, Bool.false_and]
    simp only [impl_StandardWord.l0]
    rw [if_pos a1, if_pos a2, if_pos a1, er, hw]
    simp only [Option.bind_some]
    cases hb : okD i x with
    | true =>
      rw [hb, Bool.true_and] at hok
      rw [if_pos rfl, Bool.true_and, show wrap64 ((i : Int) + 1) = ((i + 1 : Nat) : Int) from wrap_succ a3, ih k (i + 1) a4 hok a5]
    | false => rw [if_neg (by decide), Bool.false_and, if_neg (by decide)]

theorem spec_rng (l : List Int) (hl : l.length ≤ 20) (K : Nat) (R : ByteArray × Int) (hR : okL 0 l = true → ∀ k, K < k → ((spec_l08Standard.f k l).bind fun bt105 => (if bt105.2 = true then (some (bt105.1, 0)) else (some ((⟨#[]⟩ : ByteArray), 3)))) = some R) :
    ∀ (e k i : Nat), i + e = l.length → (okL i (l.drop i) = true → okL 0 l = true) → e + K + 1 < k → spec_StandardWord.l0 k l (i : Int) = some (if okL i (l.drop i) = true then R else (⟨#[]⟩, 2)) := by
  intro e
  induction e with
  | zero =>
    intro k i hi hok hk
    obtain ⟨k, rfl⟩ : ∃ q, k = q + 1 := ⟨k - 1, by omega⟩
    have hdr : l.drop i = [] := List.drop_eq_nil_of_le (by omega)
    rw [hdr] at hok ⊢
    simp only [spec_StandardWord.l0]
    rw [if_neg (by omega), show okL i [] = true from rfl, if_pos rfl]
    exact hR (hok rfl) k (by omega)
  | succ e ih =>
    intro k i hi hok hk
    obtain ⟨k, rfl⟩ : ∃ q, k = q + 1 := ⟨k - 1, by omega⟩
    have hil : i < l.length := by omega
    have er : rd l (i : Int) = l[i] := rd_nat l i hil
    rw [List.drop_eq_getElem_cons hil, okL] at hok ⊢
    generalize l[i] = x at er hok
    have a1 : (i : Int) < (l.length : Int) := by omega
    have a2 : (0 : Int) ≤ (i : Int) := by omega
    have a3 : i < 4611686018427387904 := by omega
    have a4 : (i + 1) + e = l.length := by omega
    have a5 : e + K + 1 < k := by omega
    have hin : spec_l01In.f x 0 60 = some (decide (0 ≤ x) && decide (x ≤ 60)) := by
      unfold spec_l01In.f
      by_cases h : (0 : Int) ≤ x
      · rw [if_pos h, decide_eq_true h, Bool.true_and]
      · rw [if_neg h, decide_eq_false h, Bool.false_and]
    simp only [spec_StandardWord.l0]
    rw [if_pos a1, if_pos a2, er, hin]
    simp only [Option.bind_some]
    have hwi : wrap64 ((i : Int) + 1) = ((i + 1 : Nat) : Int) := wrap_succ a3
    cases hb : okD i x with
    | true =>
      rw [hb, Bool.true_and] at hok
      have hb' := hb
      simp only [okD, Bool.and_eq_true, decide_eq_true_eq] at hb'
      have h0 : (decide (0 ≤ x) && decide (x ≤ 60)) = true := by
        rw [Bool.and_eq_true, decide_eq_true_eq, decide_eq_true_eq]
        exact ⟨by have := hb'.1; clear hwi; split at this <;> omega, hb'.2⟩
      rw [if_pos h0, Bool.true_and, hwi, ih k (i + 1) a4 hok a5]
      by_cases hi0 : (i : Int) > 0
      · have hx1 : ¬ x = 0 := by have := hb'.1; clear hwi; rw [if_neg (by omega)] at this; omega
        rw [if_pos hi0, if_neg hx1]
      · rw [if_neg hi0]
    | false =>
      rw [Bool.false_and, if_neg (show ¬ (false = true) by decide)]
      by_cases h0 : (decide (0 ≤ x) && decide (x ≤ 60)) = true
      · rw [if_pos h0]
        rw [Bool.and_eq_true, decide_eq_true_eq, decide_eq_true_eq] at h0
        have hx : ¬ (if i = 0 then (0 : Int) else 1) ≤ x := fun h => by
          have : okD i x = true := by unfold okD; rw [decide_eq_true h, decide_eq_true h0.2]; rfl
          rw [this] at hb; cases hb
        clear hwi
        have hi0 : i ≠ 0 := fun e => hx (by rw [if_pos e]; exact h0.1)
        rw [if_neg hi0] at hx
        rw [if_pos (by omega), if_pos (by omega)]
      · rw [if_neg h0]

end Go.Proofs.Ytippkbjdifmdnaa.PF
