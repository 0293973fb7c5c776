/- Plain facts on words: order, sorted lists of words, what the tests of words come to. -/
import Derived.Test.YtippkbjdifmdnaaDoorPFGivA
import Derived.Test.YtippkbjdifmdnaaDoorPFx1
import Derived.Test.YtippkbjdifmdnaaDoorPFx19
import Derived.Test.YtippkbjdifmdnaaDoorPFx22
import Derived.Test.YtippkbjdifmdnaaDoorPFx23
import Derived.Test.YtippkbjdifmdnaaDoorPFx24
import Derived.Test.YtippkbjdifmdnaaDoorPFGivT
import Derived.Test.YtippkbjdifmdnaaDoorPFGivL
import Derived.Test.YtippkbjdifmdnaaDoorPFx5
import Derived.Test.YtippkbjdifmdnaaDoorPFx6
namespace Go.Proofs.YtippkbjdifmdnaaDoor.PF
open Go.RowKit Go.Proofs.YtippkbjdifmdnaaDoorW.PrintWords Go.Proofs.YtippkbjdifmdnaaDoorW.PrintLast Go.Proofs.YtippkbjdifmdnaaDoorW.PrintMore
set_option linter.unusedVariables false
set_option linter.unusedSimpArgs false

theorem wrap_id {x : Int} (h0 : -9223372036854775808 ≤ x) (h1 : x ≤ 9223372036854775807) : wrap64 x = x := by
  unfold wrap64; omega

/-! ### order -/
theorem toList_eq (a : ByteArray) : a.toList = a.data.toList := ByteArray.toList_eq a
theorem ba_ext {a b : ByteArray} (h : a.data.toList = b.data.toList) : a = b := ByteArray.ext (Array.toList_inj.1 h)
theorem ba_inj {a b : ByteArray} : a.toList = b.toList ↔ a = b := ⟨fun h => ba_ext (by rw [← toList_eq, ← toList_eq]; exact h), fun h => by rw [h]⟩
theorem ba_mk (a : ByteArray) : (⟨a.data.toList.toArray⟩ : ByteArray) = a := by cases a; simp

theorem drop_bytes (a : ByteArray) (i : Nat) (h : i < a.size) : (bytesOf a).drop i = bt a (i : Int) :: (bytesOf a).drop (i + 1) := by
  rw [rd_drop _ i (by rw [bytesOf_length]; exact h), rd_bytesOf]

theorem is_loop (a : ByteArray) (ha : a.size ≤ 9000000000000000000) : ∀ (d k i : Nat), i + d = a.size → d < k → spec_l01Is.l0 k a (i : Int) = some (decide (a.size ≤ 60) && ((bytesOf a).drop i).all isLet) := by
  intro d
  induction d with
  | zero =>
    intro k i hd hk
    obtain ⟨k, rfl⟩ : ∃ m, k = m + 1 := ⟨k - 1, by omega⟩
    simp only [spec_l01Is.l0]
    rw [if_neg (by omega), List.drop_eq_nil_of_le (by rw [bytesOf_length]; omega)]
    simp
    omega
  | succ d ih =>
    intro k i hd hk
    obtain ⟨k, rfl⟩ : ∃ m, k = m + 1 := ⟨k - 1, by omega⟩
    simp only [spec_l01Is.l0]
    rw [if_pos (by omega), if_pos (by omega), drop_bytes a i (by omega)]
    simp only [List.all_cons, isLet]
    by_cases h1 : bt a (i : Int) < 97
    · rw [if_pos h1, decide_eq_false (by omega : ¬ 97 ≤ bt a (i : Int))]; simp
    · rw [if_neg h1]
      by_cases h2 : bt a (i : Int) > 101
      · rw [if_pos h2, decide_eq_false (by omega : ¬ bt a (i : Int) < 102)]; simp
      · rw [if_neg h2, decide_eq_true (by omega : 97 ≤ bt a (i : Int)), decide_eq_true (by omega : bt a (i : Int) < 102), wrap_id (by omega) (by omega)]
        rw [show (i : Int) + 1 = ((i + 1 : Nat) : Int) from rfl, ih k (i + 1) (by omega) (by omega)]
        simp [isLet]

theorem l01Is_ev (a : ByteArray) (ha : a.size ≤ 9000000000000000000) : Ev (fun k => spec_l01Is.f k a) (isW a) :=
  ⟨a.size + 1, fun k hk => by
    have h := is_loop a ha a.size k 0 (by omega) (by omega)
    exact h⟩

theorem isW_size {a : ByteArray} (h : isW a = true) : a.size ≤ 60 := by
  simp only [isW, Bool.and_eq_true, decide_eq_true_eq] at h; exact h.1


end Go.Proofs.YtippkbjdifmdnaaDoor.PF

namespace Go.Proofs.YtippkbjdifmdnaaDoor.PF
open Go.RowKit Go.Proofs.YtippkbjdifmdnaaDoorW.PrintWords Go.Proofs.YtippkbjdifmdnaaDoorW.PrintLast Go.Proofs.YtippkbjdifmdnaaDoorW.PrintMore
set_option linter.unusedVariables false
set_option linter.unusedSimpArgs false

theorem ev_bnd {α β : Type} {g : Nat → Option α} {f : Nat → α → Option β} {a : α} {r : β} (h1 : Ev g a) (h2 : Ev (fun k => f k a) r) : Ev (fun k => (g k).bind (f k)) r := by
  obtain ⟨K1, h1⟩ := h1
  obtain ⟨K2, h2⟩ := h2
  exact ⟨K1 + K2, fun k hk => by show (g k).bind (f k) = some r; rw [h1 k (by omega)]; exact h2 k (by omega)⟩
theorem ev_of {α : Type} {c : Option α} {r : α} (h : c = some r) : Ev (fun _ => c) r := ⟨0, fun _ _ => h⟩
theorem ev_suc {α : Type} {g : Nat → Option α} {r : α} (h : Ev (fun k => g (k + 1)) r) : Ev g r := by
  obtain ⟨K, h⟩ := h
  exact ⟨K + 1, fun k hk => by obtain ⟨k, rfl⟩ : ∃ n, k = n + 1 := ⟨k - 1, by omega⟩; exact h k (by omega)⟩
theorem ev_get {α : Type} {g : Nat → Option α} {r : α} (h : Ev g r) : ∃ k, g k = some r := by obtain ⟨K, h⟩ := h; exact ⟨K, h K (Nat.le_refl _)⟩
theorem ev_congr {α : Type} {g : Nat → Option α} {r r' : α} (h : Ev g r) (e : r = r') : Ev g r' := e ▸ h

theorem bne_false {α : Type} [BEq α] [ReflBEq α] (a : α) : (a != a) = false := by simp [bne]

theorem wrap_nat {x : Int} {n : Nat} (h : x = n) (hn : n ≤ 4611686018427387904) : wrap64 x = (n : Int) := by rw [h, wrap_id (by omega) (by omega)]
theorem wrap_succ {i : Nat} (hn : i < 4611686018427387904) : wrap64 ((i : Int) + 1) = ((i + 1 : Nat) : Int) := wrap_nat (n := i + 1) (by omega) (by omega)
theorem rd_nat (l : List Int) (i : Nat) (h : i < l.length) : rd l (i : Int) = l[i] := by simp [rd, h]
theorem rdOf_nat {α : Type} (d : α) (l : List α) (i : Nat) (h : i < l.length) : rdOf d l (i : Int) = l[i] := by simp [rdOf, h]

end Go.Proofs.YtippkbjdifmdnaaDoor.PF

namespace Go.Proofs.YtippkbjdifmdnaaDoor.PF
open Go.RowKit Go.Proofs.YtippkbjdifmdnaaDoorW.PrintWords Go.Proofs.YtippkbjdifmdnaaDoorW.PrintLast Go.Proofs.YtippkbjdifmdnaaDoorW.PrintMore
set_option linter.unusedVariables false
set_option linter.unusedSimpArgs false

theorem ba_toList_inj {a b : ByteArray} : (a.toList = b.toList) = (a = b) := propext ba_inj

theorem hasPrefix_f (a b : ByteArray) (ha : a.size ≤ 9000000000000000000) : strings_HasPrefix.f a b = some (decide (b.size ≤ a.size ∧ a.extract 0 b.size = b)) := by
  unfold strings_HasPrefix.f stringslite_HasPrefix.f
  by_cases h : b.size ≤ a.size
  · simp only [show (a.size : Int) ≥ (b.size : Int) by omega, show (0 : Int) ≤ (b.size : Int) by omega, if_true, show (b.size : Int) ≤ (a.size : Int) by omega, Int.toNat_natCast, Option.bind_some, h, true_and]
    rw [Bool.beq_eq_decide_eq]
    simp only [ba_toList_inj]
  · simp only [show ¬ (a.size : Int) ≥ (b.size : Int) by omega, if_false, Option.bind_some, h, false_and, decide_false]

theorem hasPrefix_at (w v : ByteArray) (i : Nat) (hi : i ≤ w.size) (hw : w.size ≤ 9000000000000000000) : strings_HasPrefix.f (w.extract i w.size) v = some (decide (i + v.size ≤ w.size ∧ w.extract i (i + v.size) = v)) := by
  rw [hasPrefix_f _ _ (by rw [ByteArray.size_extract]; omega)]
  congr 1
  rw [decide_eq_decide, ByteArray.size_extract, ByteArray.extract_extract]
  constructor
  · rintro ⟨h1, h2⟩
    have : i + v.size ≤ w.size := by omega
    refine ⟨this, ?_⟩
    rwa [Nat.add_zero, Nat.min_eq_left this] at h2
  · rintro ⟨h1, h2⟩
    refine ⟨by omega, ?_⟩
    rwa [Nat.add_zero, Nat.min_eq_left h1]

end Go.Proofs.YtippkbjdifmdnaaDoor.PF

namespace Go.Proofs.YtippkbjdifmdnaaDoor.PF
open Go.RowKit Go.Proofs.YtippkbjdifmdnaaDoorW.PrintWords Go.Proofs.YtippkbjdifmdnaaDoorW.PrintLast Go.Proofs.YtippkbjdifmdnaaDoorW.PrintMore
set_option linter.unusedVariables false
set_option linter.unusedSimpArgs false

theorem eqI_loop (l : List Int) (hl : l.length ≤ 4000000000000) : ∀ (d k i : Nat), i + d = l.length → d < k → laws_eqInt64S.l0 k l l (i : Int) = some true := by
  intro d
  induction d with
  | zero =>
    intro k i hd hk
    obtain ⟨k, rfl⟩ : ∃ m, k = m + 1 := ⟨k - 1, by omega⟩
    simp only [laws_eqInt64S.l0]; rw [if_neg (by omega)]
  | succ d ih =>
    intro k i hd hk
    obtain ⟨k, rfl⟩ : ∃ m, k = m + 1 := ⟨k - 1, by omega⟩
    simp only [laws_eqInt64S.l0]
    rw [if_pos (by omega), if_pos (by omega), if_pos (by omega), if_pos trivial, wrap_succ (by omega), ih k (i + 1) (by omega) (by omega)]

theorem eqI_ev (l : List Int) (hl : l.length ≤ 4000000000000) : Ev (fun k => laws_eqInt64S.f k l l) true :=
  ⟨l.length + 1, fun k hk => by
    have h := eqI_loop l hl l.length k 0 (by omega) (by omega)
    simp only [laws_eqInt64S.f, if_true]; exact h⟩

theorem markI_loop : ∀ (d k i : Nat) (l : List Int), i + d = l.length → l.length ≤ 4000000000000 → d < k → (∀ j, j < i → rd l (j : Int) = (j : Int) + 1) →
    ∃ r, (∀ k, d < k → laws_markInt64S.l0 k l ((i : Int) + 1) (i : Int) = some ((l.length : Int) + 1, r)) ∧ r.length = l.length ∧ (∀ j, j < l.length → rd r (j : Int) = (j : Int) + 1) := by
  intro d
  induction d with
  | zero =>
    intro k i l hd hl hk hj
    refine ⟨l, fun k hk => ?_, rfl, fun j h => hj j (by omega)⟩
    obtain ⟨k, rfl⟩ : ∃ m, k = m + 1 := ⟨k - 1, by omega⟩
    simp only [laws_markInt64S.l0]; rw [if_neg (by omega), show i = l.length by omega]
  | succ d ih =>
    intro k i l hd hl hk hj
    obtain ⟨r, h1, h2, h3⟩ := ih (d + 1) (i + 1) (l.set i ((i : Int) + 1)) (by rw [List.length_set]; omega) (by rw [List.length_set]; exact hl) (by omega) (fun j h => by
      rw [rd_nat _ _ (by rw [List.length_set]; omega), List.getElem_set]
      by_cases e : i = j
      · rw [if_pos e, e]
      · rw [if_neg e, ← rd_nat _ _ (by omega)]; exact hj j (by omega))
    rw [List.length_set] at h1 h2 h3
    refine ⟨r, fun k hk => ?_, h2, h3⟩
    obtain ⟨k, rfl⟩ : ∃ m, k = m + 1 := ⟨k - 1, by omega⟩
    simp only [laws_markInt64S.l0]
    rw [if_pos (by omega), if_pos (by omega), wrap_succ (i := i) (by omega), show wrap64 ((i : Int) + 1 + 1) = ((i + 1 : Nat) : Int) + 1 by rw [wrap_id (by omega) (by omega)]; omega]
    rw [Int.toNat_natCast, ← h1 k (by omega)]

theorem heldI_loop (r : List Int) (hl : r.length ≤ 4000000000000) (h : ∀ j, j < r.length → rd r (j : Int) = (j : Int) + 1) : ∀ (d k i : Nat), i + d = r.length → d < k → laws_heldInt64S.l0 k r ((i : Int) + 1) (i : Int) = some ((r.length : Int) + 1) := by
  intro d
  induction d with
  | zero =>
    intro k i hd hk
    obtain ⟨k, rfl⟩ : ∃ m, k = m + 1 := ⟨k - 1, by omega⟩
    simp only [laws_heldInt64S.l0]; rw [if_neg (by omega), show i = r.length by omega]
  | succ d ih =>
    intro k i hd hk
    obtain ⟨k, rfl⟩ : ∃ m, k = m + 1 := ⟨k - 1, by omega⟩
    simp only [laws_heldInt64S.l0]
    rw [if_pos (by omega), if_pos (by omega), if_pos (h i (by omega)), wrap_succ (i := i) (by omega), show wrap64 ((i : Int) + 1 + 1) = ((i + 1 : Nat) : Int) + 1 by rw [wrap_id (by omega) (by omega)]; omega]
    exact ih k (i + 1) (by omega) (by omega)

/-- A marked list is held, as long as nothing writes it. -/
theorem markI_ev (l : List Int) (hl : l.length ≤ 4000000000000) : ∃ r, Ev (fun k => laws_markInt64S.f k l 1) ((l.length : Int) + 1, r) ∧ Ev (fun k => laws_heldInt64S.f k r 1) ((l.length : Int) + 1) := by
  obtain ⟨r, h1, h2, h3⟩ := markI_loop l.length (l.length + 1) 0 l (by omega) hl (by omega) (fun j h => by omega)
  refine ⟨r, ⟨l.length + 1, fun k hk => ?_⟩, ⟨l.length + 1, fun k hk => ?_⟩⟩
  · have := h1 k (by omega)
    unfold laws_markInt64S.f; exact this
  · have := heldI_loop r (by omega) (fun j h => h3 j (by omega)) r.length k 0 (by omega) (by omega)
    rw [h2] at this
    unfold laws_heldInt64S.f; exact this

end Go.Proofs.YtippkbjdifmdnaaDoor.PF

namespace Go.Proofs.YtippkbjdifmdnaaDoor.PF
open Go.RowKit Go.Proofs.YtippkbjdifmdnaaDoorW.PrintWords Go.Proofs.YtippkbjdifmdnaaDoorW.PrintLast Go.Proofs.YtippkbjdifmdnaaDoorW.PrintMore
set_option linter.unusedVariables false
set_option linter.unusedSimpArgs false
set_option maxRecDepth 20000

/-- The numbers from one on with which a word doesn't get too long. -/
def kids (n own last : Nat) : Nat → Nat → List Nat
  | 0, _ => []
  | e + 1, d => if own * d + last ≤ n then d :: kids n own last e (d + 1) else []
/-- All lists of a depth, in order. -/
def allF (w : ByteArray) : Nat → ByteArray → ByteArray → List Nat → List (List Nat)
  | 0, _, own, l => if own = w then [l] else []
  | c + 1, last, own, l => (kids w.size own.size last.size 62 (min l.length 1)).flatMap fun d => allF w c own (rep own d ++ last) (l ++ [d])
/-- Does a word begin with another? -/
def pre (w u : ByteArray) : Bool := decide (u.size ≤ w.size ∧ w.extract 0 u.size = u)
/-- All lists up to a depth, as they are met, by words that the word begins with. -/
def hits (w : ByteArray) : Nat → ByteArray → ByteArray → List Nat → List (List Nat)
  | 0, _, own, l => if own = w then [l] else []
  | m + 1, last, own, l => (if own = w then [l] else []) ++ (kids w.size own.size last.size 62 (min l.length 1)).flatMap fun d => if pre w (rep own d ++ last) = true then hits w m own (rep own d ++ last) (l ++ [d]) else []

/-- Shorter, or as long and less. -/
def lessL (x y : List Nat) : Bool := decide (x.length < y.length) || (decide (x.length = y.length) && decide (x < y))
/-- One list more is met. -/
def stepL (s : Bool × List Nat) (l : List Nat) : Bool × List Nat := if s.1 = false ∨ lessL l s.2 = true then (true, l) else s

theorem lessL_irrefl (x : List Nat) : lessL x x = false := by
  simp [lessL, List.lt_irrefl]
theorem lessL_trans {x y z : List Nat} (h : lessL x y = true) (k : lessL y z = true) : lessL x z = true := by
  simp only [lessL, Bool.or_eq_true, Bool.and_eq_true, decide_eq_true_eq] at h k ⊢
  rcases h with h | ⟨h1, h2⟩ <;> rcases k with k | ⟨k1, k2⟩
  · left; omega
  · left; omega
  · left; omega
  · right; exact ⟨by omega, List.lt_trans h2 k2⟩
theorem lessL_total {x y : List Nat} (h : lessL x y = false) (k : lessL y x = false) : x = y := by
  simp only [lessL, Bool.or_eq_false_iff, Bool.and_eq_false_iff, decide_eq_false_iff_not] at h k
  obtain ⟨h1, h2⟩ := h
  obtain ⟨k1, k2⟩ := k
  have hl : x.length = y.length := by omega
  have a1 : ¬ x < y := h2.resolve_left (fun g => g hl)
  have a2 : ¬ y < x := k2.resolve_left (fun g => g hl.symm)
  exact List.le_antisymm (List.not_lt.1 a2) (List.not_lt.1 a1)

/-- What is kept is the least of what was met. -/
theorem fold_least : ∀ (hs : List (List Nat)) (s : Bool × List Nat), (s.1 = true → True) →
    ((hs.foldl stepL s).1 = true ↔ s.1 = true ∨ hs ≠ []) ∧
    ((hs.foldl stepL s).1 = true → ((s.1 = true ∧ (hs.foldl stepL s).2 = s.2) ∨ (hs.foldl stepL s).2 ∈ hs) ∧ (∀ l ∈ hs, lessL l (hs.foldl stepL s).2 = false) ∧ (s.1 = true → lessL s.2 (hs.foldl stepL s).2 = false)) := by
  intro hs
  induction hs with
  | nil =>
    intro s _
    refine ⟨by simp, fun h => ⟨.inl ⟨h, rfl⟩, by simp, fun _ => lessL_irrefl _⟩⟩
  | cons x hs ih =>
    intro s _
    obtain ⟨h1, h2⟩ := ih (stepL s x) (fun _ => trivial)
    have hst : (stepL s x).1 = true := by
      unfold stepL
      by_cases g : s.1 = false ∨ lessL x s.2 = true
      · rw [if_pos g]
      · rw [if_neg g]
        cases hs1 : s.1 with
        | true => rfl
        | false => exact absurd (.inl hs1) g
    refine ⟨⟨fun _ => .inr (by simp), fun _ => h1.2 (.inl hst)⟩, fun h => ?_⟩
    obtain ⟨k1, k2, k3⟩ := h2 h
    have k3 := k3 hst
    simp only [List.foldl_cons]
    by_cases g : s.1 = false ∨ lessL x s.2 = true
    · have e : stepL s x = (true, x) := by unfold stepL; rw [if_pos g]
      rw [e] at k1 k2 k3 ⊢
      have k3 : lessL x (List.foldl stepL (true, x) hs).2 = false := k3
      refine ⟨.inr ?_, fun l hl => ?_, fun hs1 => ?_⟩
      · rcases k1 with ⟨_, k1⟩ | k1
        · rw [k1]; simp
        · exact List.mem_cons_of_mem _ k1
      · rcases List.mem_cons.1 hl with rfl | hl
        · exact k3
        · exact k2 l hl
      · rcases g with g | g
        · rw [hs1] at g; cases g
        · cases hq : lessL s.2 (List.foldl stepL (true, x) hs).2 with
          | false => rfl
          | true => rw [lessL_trans g hq] at k3; cases k3
    · have e : stepL s x = s := by unfold stepL; rw [if_neg g]
      rw [e] at k1 k2 k3 ⊢
      have hx : lessL x s.2 = false := by
        cases hq : lessL x s.2 with
        | false => rfl
        | true => exact absurd (.inr hq) g
      refine ⟨?_, fun l hl => ?_, fun _ => k3⟩
      · rcases k1 with k1 | k1
        · exact .inl k1
        · exact .inr (List.mem_cons_of_mem _ k1)
      · rcases List.mem_cons.1 hl with rfl | hl
        · cases hq : lessL l (List.foldl stepL s hs).2 with
          | false => rfl
          | true =>
            -- the kept one is not above what was kept before
            rcases k1 with ⟨_, k1⟩ | k1
            · rw [k1, hx] at hq; cases hq
            · have k3' : lessL s.2 (List.foldl stepL s hs).2 = false := by
                have q_ := (h2 h).2.2 hst
                rw [e] at q_; exact q_
              by_cases g2 : lessL (List.foldl stepL s hs).2 s.2 = true
              · rw [lessL_trans hq g2] at hx; cases hx
              · have g2 : lessL (List.foldl stepL s hs).2 s.2 = false := by simpa using g2
                have := lessL_total g2 k3'
                rw [this, hx] at hq; cases hq
        · exact k2 l hl

/-! ### lists of a depth -/
theorem mem_kids (n own last x : Nat) : ∀ e d, x ∈ kids n own last e d → d ≤ x ∧ own * x + last ≤ n
  | 0, _, h => by cases h
  | e + 1, d, h => by
    unfold kids at h
    split at h
    · rename_i hc
      rcases List.mem_cons.1 h with rfl | h
      · exact ⟨Nat.le_refl _, hc⟩
      · have := mem_kids n own last x e (d + 1) h; exact ⟨by omega, this.2⟩
    · cases h
theorem kids_sorted (n own last : Nat) : ∀ e d, (kids n own last e d).Pairwise (· < ·)
  | 0, _ => List.Pairwise.nil
  | e + 1, d => by
    unfold kids
    split
    · exact List.pairwise_cons.2 ⟨fun x hx => by have := (mem_kids n own last x e (d + 1) hx).1; omega, kids_sorted n own last e (d + 1)⟩
    · exact List.Pairwise.nil
/-- Each list of a depth goes on from the one at hand. -/
theorem allF_form (w : ByteArray) : ∀ c last own l x, x ∈ allF w c last own l → ∃ t, x = l ++ t ∧ t.length = c
  | 0, last, own, l, x, h => by
    unfold allF at h
    split at h
    · exact ⟨[], by simpa using h, rfl⟩
    · cases h
  | c + 1, last, own, l, x, h => by
    unfold allF at h
    obtain ⟨d, hd, hx⟩ := List.mem_flatMap.1 h
    obtain ⟨t, ht, hl⟩ := allF_form w c own (rep own d ++ last) (l ++ [d]) x hx
    exact ⟨d :: t, by rw [ht]; simp, by simp [hl]⟩
theorem lt_app (l : List Nat) : ∀ {a b : List Nat}, a < b → l ++ a < l ++ b := by
  induction l with
  | nil => exact fun h => h
  | cons x l ih => exact fun h => List.Lex.cons (ih h)
/-- The lists of a depth come in order. -/
theorem allF_sorted (w : ByteArray) : ∀ c last own l, (allF w c last own l).Pairwise (· < ·)
  | 0, last, own, l => by
    unfold allF
    split
    · exact List.pairwise_singleton _ _
    · exact List.Pairwise.nil
  | c + 1, last, own, l => by
    unfold allF
    have hk := kids_sorted w.size own.size last.size 62 (min l.length 1)
    generalize kids w.size own.size last.size 62 (min l.length 1) = ks at hk
    induction ks with
    | nil => exact List.Pairwise.nil
    | cons d ks ih =>
      obtain ⟨h1, h2⟩ := List.pairwise_cons.1 hk
      rw [List.flatMap_cons, List.pairwise_append]
      refine ⟨allF_sorted w c own _ _, ih h2, fun x hx y hy => ?_⟩
      obtain ⟨d', hd', hy⟩ := List.mem_flatMap.1 hy
      obtain ⟨t, rfl, _⟩ := allF_form w c own _ _ x hx
      obtain ⟨t', rfl, _⟩ := allF_form w c own _ _ y hy
      rw [List.append_assoc, List.append_assoc]
      exact lt_app l (List.Lex.rel (h1 d' hd'))

/-! ### what is left out has no hits -/
theorem pre_iff (w u : ByteArray) : pre w u = true ↔ ∃ x, w = u ++ x := by
  unfold pre
  rw [decide_eq_true_eq]
  constructor
  · rintro ⟨h1, h2⟩
    refine ⟨w.extract u.size w.size, ?_⟩
    have e : w = w.extract 0 u.size ++ w.extract u.size w.size := by
      refine ByteArray.ext ?_
      rw [ByteArray.data_append, ByteArray.data_extract, ByteArray.data_extract]
      have hw : w.size = w.data.size := rfl
      rw [hw]
      refine Array.ext' ?_
      simp only [Array.toList_append, Array.toList_extract, List.extract_eq_take_drop, List.drop_zero, Nat.sub_zero]
      rw [List.take_of_length_le (l := List.drop u.size w.data.toList) (by simp), List.take_append_drop]
    rw [h2] at e
    exact e
  · rintro ⟨x, rfl⟩
    refine ⟨by rw [ByteArray.size_append]; omega, ?_⟩
    refine ByteArray.ext ?_
    rw [ByteArray.data_extract, ByteArray.data_append]
    refine Array.ext' ?_
    simp only [Array.toList_append, Array.toList_extract, List.extract_eq_take_drop, List.drop_zero, Nat.sub_zero]
    have hl : u.size = u.data.toList.length := by rw [Array.length_toList]; rfl
    rw [hl, List.take_left]
theorem pre_trans {w u v : ByteArray} (h : pre w u = true) (k : ∃ x, u = v ++ x) : pre w v = true := by
  obtain ⟨x, rfl⟩ := (pre_iff w u).1 h
  obtain ⟨y, rfl⟩ := k
  exact (pre_iff _ _).2 ⟨y ++ x, by rw [ByteArray.append_assoc]⟩
theorem rep_head (own : ByteArray) (d : Nat) (hd : 1 ≤ d) : ∃ x, rep own d = own ++ x := by
  obtain ⟨e, rfl⟩ : ∃ e, d = 1 + e := ⟨d - 1, by omega⟩
  refine ⟨rep own e, ByteArray.ext (Array.ext' ?_)⟩
  rw [ByteArray.data_append, Array.toList_append]
  unfold rep
  rw [Lib.repeatL_add, Lib.repeatL_one]
theorem allF_pre (w : ByteArray) : ∀ c last own l x, l ≠ [] → x ∈ allF w c last own l → pre w own = true
  | 0, last, own, l, x, hl, h => by
    unfold allF at h
    split at h
    · rename_i e; subst e; exact (pre_iff _ _).2 ⟨⟨#[]⟩, ByteArray.ext (by rw [ByteArray.data_append]; simp)⟩
    · cases h
  | c + 1, last, own, l, x, hl, h => by
    unfold allF at h
    obtain ⟨d, hd, hx⟩ := List.mem_flatMap.1 h
    have h1 := (mem_kids _ _ _ _ _ _ hd).1
    have hlp : 0 < l.length := List.length_pos_iff.2 hl
    have hp := allF_pre w c own (rep own d ++ last) (l ++ [d]) x (by simp) hx
    obtain ⟨y, hy⟩ := rep_head own d (by omega)
    exact pre_trans hp ⟨y ++ last, by rw [hy, ByteArray.append_assoc]⟩
theorem mem_hits (w : ByteArray) : ∀ m last own l x, x ∈ hits w m last own l ↔ ∃ c, c ≤ m ∧ x ∈ allF w c last own l := by
  intro m
  induction m with
  | zero =>
    intro last own l x
    constructor
    · intro h; exact ⟨0, Nat.le_refl _, h⟩
    · rintro ⟨c, hc, h⟩
      obtain rfl : c = 0 := by omega
      exact h
  | succ m ih =>
    intro last own l x
    unfold hits
    rw [List.mem_append, List.mem_flatMap]
    constructor
    · rintro (h | ⟨d, hd, h⟩)
      · exact ⟨0, by omega, h⟩
      · split at h
        · obtain ⟨c, hc, h⟩ := (ih _ _ _ _).1 h
          refine ⟨c + 1, by omega, ?_⟩
          unfold allF
          exact List.mem_flatMap.2 ⟨d, hd, h⟩
        · cases h
    · rintro ⟨c, hc, h⟩
      cases c with
      | zero => exact .inl h
      | succ c =>
        unfold allF at h
        obtain ⟨d, hd, h⟩ := List.mem_flatMap.1 h
        refine .inr ⟨d, hd, ?_⟩
        rw [if_pos (allF_pre w c own _ _ x (by simp) h)]
        exact (ih _ _ _ _).2 ⟨c, by omega, h⟩

/-- The least hit is the first of the least depth that has one. -/
theorem least_first (w : ByteArray) (m c : Nat) (hc : c ≤ m) (last own : ByteArray) (x : List Nat) (t : List (List Nat)) (h : allF w c last own [] = x :: t) (hno : ∀ c', c' < c → allF w c' last own [] = []) :
    ((hits w m last own []).foldl stepL (false, [])) = (true, x) := by
  obtain ⟨h1, h2⟩ := fold_least (hits w m last own []) (false, []) (fun _ => trivial)
  have hx : x ∈ hits w m last own [] := (mem_hits w m last own [] x).2 ⟨c, hc, by rw [h]; simp⟩
  have hf : (List.foldl stepL (false, []) (hits w m last own [])).1 = true := h1.2 (.inr (List.ne_nil_of_mem hx))
  obtain ⟨k1, k2, _⟩ := h2 hf
  have k1 : (List.foldl stepL (false, []) (hits w m last own [])).2 ∈ hits w m last own [] := by
    rcases k1 with ⟨g, _⟩ | g
    · cases g
    · exact g
  generalize hs : List.foldl stepL (false, []) (hits w m last own []) = s at hf k1 k2
  obtain ⟨f, y⟩ := s
  have hf : f = true := hf
  subst hf
  have k1 : y ∈ hits w m last own [] := k1
  have hxy : lessL x y = false := k2 x hx
  have hyx : lessL y x = false := by
    obtain ⟨c', hc', hy⟩ := (mem_hits w m last own [] y).1 k1
    obtain ⟨t1, e1, l1⟩ := allF_form w c' last own [] y hy
    obtain ⟨t2, e2, l2⟩ := allF_form w c last own [] x (by rw [h]; simp)
    rw [List.nil_append] at e1 e2
    subst e1; subst e2
    have hcc : c ≤ c' := by
      rcases Nat.lt_or_ge c' c with g | g
      · rw [hno c' g] at hy; cases hy
      · exact g
    rcases Nat.lt_or_eq_of_le hcc with g | g
    · simp only [lessL, Bool.or_eq_false_iff, Bool.and_eq_false_iff, decide_eq_false_iff_not]
      exact ⟨by omega, .inl (by omega)⟩
    · subst g
      rw [h] at hy
      simp only [lessL, Bool.or_eq_false_iff, Bool.and_eq_false_iff, decide_eq_false_iff_not]
      refine ⟨by omega, .inr ?_⟩
      have hso := allF_sorted w c last own []
      rw [h] at hso
      rcases List.mem_cons.1 hy with rfl | hy
      · exact List.lt_irrefl _
      · have := (List.pairwise_cons.1 hso).1 _ hy
        intro g; exact absurd (List.lt_trans this g) (List.lt_irrefl _)
  rw [lessL_total hxy hyx]
theorem none_first (w : ByteArray) (m : Nat) (last own : ByteArray) (hno : ∀ c, c ≤ m → allF w c last own [] = []) : (hits w m last own []).foldl stepL (false, []) = (false, []) := by
  have : hits w m last own [] = [] := List.eq_nil_iff_forall_not_mem.2 fun x hx => by
    obtain ⟨c, hc, h⟩ := (mem_hits w m last own [] x).1 hx
    rw [hno c hc] at h; cases h
  rw [this]; rfl

end Go.Proofs.YtippkbjdifmdnaaDoor.PF

namespace Go.Proofs.YtippkbjdifmdnaaDoor.PF
open Go.RowKit Go.Proofs.YtippkbjdifmdnaaDoorW.PrintWords Go.Proofs.YtippkbjdifmdnaaDoorW.PrintLast Go.Proofs.YtippkbjdifmdnaaDoorW.PrintMore
set_option linter.unusedVariables false
set_option linter.unusedSimpArgs false
set_option maxRecDepth 20000

/-- Naturals as numbers. -/
def zs (l : List Nat) : List Int := l.map fun x : Nat => (x : Int)
theorem zs_length (l : List Nat) : (zs l).length = l.length := by simp [zs]
theorem zs_append (l : List Nat) (d : Nat) : zs (l ++ [d]) = zs l ++ [(d : Int)] := by simp [zs]
theorem rep_sz (s : ByteArray) (n : Nat) : (rep s n).size = s.size * n := by
  have h := Lib.repeatL_length s.data.toList n
  have e : (rep s n).size = (Lib.repeatL s.data.toList n).length := by unfold rep; simp [ByteArray.size]
  rw [e, h, Array.length_toList, Nat.mul_comm]; rfl
theorem rep_sc (s : ByteArray) (n : Nat) : rep s (n + 1) = s ++ rep s n := by
  refine ByteArray.ext (Array.ext' ?_)
  rw [ByteArray.data_append, Array.toList_append]
  unfold rep
  rw [Nat.add_comm, Lib.repeatL_add, Lib.repeatL_one]

/-! ### the reference: the first list of a depth -/
theorem lsI {x : Int} (h0 : -9223372036854775808 ≤ x) (h1 : x ≤ 9223372036854775807) : wrap64 x = x := by unfold wrap64; omega
/-- What is found: a list, or none. -/
def okR (o : Option (List Nat)) (r : List Int × Bool) : Prop := match o with
  | some x => r = (zs x, true)
  | none => r.2 = false
theorem own_f (l : List Nat) (h : l.length ≤ 100) : spec_l01Own.f (zs l) = some (zs l) := by
  unfold spec_l01Own.f
  rw [Option.bind_some, if_pos (by simp [zs_length]; omega)]; rfl
theorem spec_loop (w : ByteArray) (hw : w.size ≤ 60) (N : Int) (l : List Nat) (hl : l.length ≤ 20) (own last : ByteArray) (h1 : 1 ≤ own.size) (h2 : own.size ≤ 200) (h3 : last.size ≤ 200) (g : Nat → List (List Nat))
    (hch : ∀ d : Nat, min l.length 1 ≤ d → own.size * d + last.size ≤ w.size → ∃ r K, (∀ k, K ≤ k → spec_l08List.f k w (zs (l ++ [d])) own (rep own d ++ last) N = some r) ∧ okR ((g d).head?) r) :
    ∀ (e d : Nat), min l.length 1 ≤ d → 62 ≤ e + d → d ≤ 100 → ∃ r K, (∀ k, K ≤ k → spec_l08List.l0 k w (zs l) own N (rep own d ++ last) (d : Int) = some r) ∧ okR (((kids w.size own.size last.size e d).flatMap g).head?) r := by
  intro e
  induction e with
  | zero =>
    intro d hd he hd2
    refine ⟨([], false), 1, fun k hk => ?_, by simp [kids, okR]⟩
    obtain ⟨k, rfl⟩ : ∃ m, k = m + 1 := ⟨k - 1, by omega⟩
    have hm : 1 * 62 ≤ own.size * d := Nat.mul_le_mul h1 (by omega)
    have hsz : (rep own d ++ last).size = own.size * d + last.size := by rw [ByteArray.size_append, rep_sz]
    rw [spec_l08List.l0, if_neg (by omega)]
  | succ e ih =>
    intro d hd he hd2
    have hsz : (rep own d ++ last).size = own.size * d + last.size := by rw [ByteArray.size_append, rep_sz]
    unfold kids
    by_cases hc : own.size * d + last.size ≤ w.size
    · rw [if_pos hc, List.flatMap_cons]
      have hd60 : d ≤ 60 := by
        rcases Nat.lt_or_ge 60 d with q | q
        · have hm : 1 * 61 ≤ own.size * d := Nat.mul_le_mul h1 (by omega)
          omega
        · exact q
      obtain ⟨r1, K1, a1, a2⟩ := hch d hd hc
      obtain ⟨r2, K2, b1, b2⟩ := ih (d + 1) (by omega) (by omega) (by omega)
      have hnext : own ++ (rep own d ++ last) = rep own (d + 1) ++ last := by rw [rep_sc, ByteArray.append_assoc]
      have hgo : ∀ k, K1 + K2 + 5 ≤ k → spec_l08List.l0 k w (zs l) own N (rep own d ++ last) (d : Int) = (if r1.2 = true then some (r1.1, true) else some r2) := fun k hk => by
        obtain ⟨k, rfl⟩ : ∃ m, k = m + 2 := ⟨k - 2, by omega⟩
        have hj : spec_l08List.j1 (k + 1) w (zs l) own N (rep own d ++ last) (d : Int) true = (if r1.2 = true then some (r1.1, true) else some r2) := by
          rw [spec_l08List.j1, if_pos rfl, own_f l (by omega), Option.bind_some, if_pos (by rw [zs_length]; omega), ← zs_append, a1 k (by omega), Option.bind_some]
          split
          · rfl
          · rw [if_pos (by omega), hnext, lsI (by omega) (by omega), show (d : Int) + 1 = ((d + 1 : Nat) : Int) by omega]
            exact b1 k (by omega)
        rw [spec_l08List.l0, if_pos (by omega)]
        by_cases h0 : (d : Int) > 0
        · rw [if_pos h0]; exact hj
        · rw [if_neg h0]
          have hl0 : l.length = 0 := by omega
          have e0 : (((zs l).length : Int) == 0) = true := by rw [zs_length, hl0]; rfl
          rw [e0]; exact hj
      cases hg : g d with
      | cons x t =>
        rw [hg] at a2
        have a2 : r1 = (zs x, true) := a2
        subst a2
        exact ⟨(zs x, true), K1 + K2 + 5, fun k hk => by rw [hgo k hk]; rfl, by simp [okR]⟩
      | nil =>
        rw [hg] at a2
        have a2 : r1.2 = false := a2
        exact ⟨r2, K1 + K2 + 5, fun k hk => by rw [hgo k hk, a2]; rfl, by simpa using b2⟩
    · rw [if_neg hc]
      refine ⟨([], false), 1, fun k hk => ?_, by simp [okR]⟩
      obtain ⟨k, rfl⟩ : ∃ m, k = m + 1 := ⟨k - 1, by omega⟩
      rw [spec_l08List.l0, if_neg (by omega)]

theorem spec_find (w : ByteArray) (hw : w.size ≤ 60) (N : Nat) (hN : N ≤ 20) : ∀ (c : Nat) (last own : ByteArray) (l : List Nat), l.length + c = N → 1 ≤ own.size → 1 ≤ last.size → last.size ≤ 200 → own.size ≤ 200 →
    ∃ r K, (∀ k, K ≤ k → spec_l08List.f k w (zs l) last own (N : Int) = some r) ∧ okR ((allF w c last own l).head?) r := by
  intro c
  induction c with
  | zero =>
    intro last own l hl h1 h0 h2 h3
    refine ⟨(zs l, own.toList == w.toList), 1, fun k hk => ?_, ?_⟩
    · obtain ⟨k, rfl⟩ : ∃ m, k = m + 1 := ⟨k - 1, by omega⟩
      rw [spec_l08List.f, if_pos (by rw [zs_length]; omega)]
    · unfold allF
      by_cases e : own = w
      · subst e; simp [okR]
      · rw [if_neg e]
        have : ¬ own.toList = w.toList := fun q => e (ByteArray.ext (Array.toList_inj.1 (by rw [← ByteArray.toList_eq, ← ByteArray.toList_eq]; exact q)))
        simp [okR, this]
  | succ c ih =>
    intro last own l hl h1 h0 h2 h3
    have hch : ∀ d : Nat, min l.length 1 ≤ d → own.size * d + last.size ≤ w.size → ∃ r K, (∀ k, K ≤ k → spec_l08List.f k w (zs (l ++ [d])) own (rep own d ++ last) (N : Int) = some r) ∧ okR ((allF w c own (rep own d ++ last) (l ++ [d])).head?) r := fun d hd hs => by
      have hsz : (rep own d ++ last).size = own.size * d + last.size := by rw [ByteArray.size_append, rep_sz]
      exact ih own (rep own d ++ last) (l ++ [d]) (by simp; omega) (by omega) h1 (by omega) (by omega)
    have hr0 : rep own 0 ++ last = last := ByteArray.ext (by rw [ByteArray.data_append]; show #[] ++ _ = _; simp)
    have hr1 : own ++ last = rep own 1 ++ last := by rw [show rep own 1 = own ++ rep own 0 from rep_sc own 0, ByteArray.append_assoc, hr0]
    have hf : ∀ k, spec_l08List.f (k + 1) w (zs l) last own (N : Int) = spec_l08List.l0 k w (zs l) own (N : Int) last 0 := fun k => by
      rw [spec_l08List.f, if_neg (by rw [zs_length]; omega)]
    by_cases hnil : l.length = 0
    · obtain ⟨r, K, g1, g2⟩ := spec_loop w hw (N : Int) l (by omega) own last h1 h3 h2 (fun d => allF w c own (rep own d ++ last) (l ++ [d])) hch 62 0 (by omega) (by omega) (by omega)
      refine ⟨r, K + 1, fun k hk => ?_, ?_⟩
      · obtain ⟨k, rfl⟩ : ∃ m, k = m + 1 := ⟨k - 1, by omega⟩
        have := g1 k (by omega)
        rw [hr0] at this
        rw [hf]; exact this
      · unfold allF
        rw [show min l.length 1 = 0 by omega]; exact g2
    · by_cases hc : last.size ≤ w.size
      · obtain ⟨r, K, g1, g2⟩ := spec_loop w hw (N : Int) l (by omega) own last h1 h3 h2 (fun d => allF w c own (rep own d ++ last) (l ++ [d])) hch 62 1 (by omega) (by omega) (by omega)
        refine ⟨r, K + 5, fun k hk => ?_, ?_⟩
        · obtain ⟨k, rfl⟩ : ∃ m, k = m + 3 := ⟨k - 3, by omega⟩
          have e0 : (((zs l).length : Int) == 0) = false := beq_eq_false_iff_ne.2 (by rw [zs_length]; omega)
          rw [hf, spec_l08List.l0, if_pos (by omega), if_neg (by omega), e0, spec_l08List.j1, if_neg (by simp), if_pos (by omega), hr1, lsI (by omega) (by omega)]
          exact g1 k (by omega)
        · unfold allF
          rw [show min l.length 1 = 1 by omega]; exact g2
      · refine ⟨([], false), 2, fun k hk => ?_, ?_⟩
        · obtain ⟨k, rfl⟩ : ∃ m, k = m + 2 := ⟨k - 2, by omega⟩
          rw [hf, spec_l08List.l0, if_neg (by omega)]
        · unfold allF
          rw [show min l.length 1 = 1 by omega]
          have : kids w.size own.size last.size 62 1 = [] := by unfold kids; rw [if_neg (by omega)]
          rw [this]; simp [okR]

/-! ### the reference -/
theorem spec_all (w : ByteArray) (hw : w.size ≤ 60) : ∀ (e c : Nat), c + e = 21 →
    ∃ r K, (∀ k, K ≤ k → spec_ListOfStandard.l0 k w (c : Int) = some r) ∧
      ((∃ c' x t, c ≤ c' ∧ c' ≤ 20 ∧ allF w c' ⟨#[98]⟩ ⟨#[97]⟩ [] = x :: t ∧ (∀ q, c ≤ q → q < c' → allF w q ⟨#[98]⟩ ⟨#[97]⟩ [] = []) ∧ r = (zs x, 0)) ∨ ((∀ q, c ≤ q → q ≤ 20 → allF w q ⟨#[98]⟩ ⟨#[97]⟩ [] = []) ∧ r = ([], 5))) := by
  intro e
  induction e with
  | zero =>
    intro c hc
    refine ⟨([], 5), 1, fun k hk => ?_, .inr ⟨fun q q1 q2 => by omega, rfl⟩⟩
    obtain ⟨k, rfl⟩ : ∃ m, k = m + 1 := ⟨k - 1, by omega⟩
    rw [spec_ListOfStandard.l0, if_neg (by omega)]
  | succ e ih =>
    intro c hc
    obtain ⟨r1, K1, a1, a2⟩ := spec_find w hw c (by omega) c ⟨#[98]⟩ ⟨#[97]⟩ [] (by simp) (by decide) (by decide) (by decide) (by decide)
    obtain ⟨r2, K2, b1, b2⟩ := ih (c + 1) (by omega)
    have hgo : ∀ k, K1 + K2 + 2 ≤ k → spec_ListOfStandard.l0 k w (c : Int) = (if r1.2 = true then some (r1.1, 0) else some r2) := fun k hk => by
      obtain ⟨k, rfl⟩ : ∃ m, k = m + 1 := ⟨k - 1, by omega⟩
      have h := a1 k (by omega)
      rw [show zs [] = ([] : List Int) from rfl] at h
      rw [spec_ListOfStandard.l0, if_pos (by omega), h, Option.bind_some, lsI (by omega) (by omega), show (c : Int) + 1 = ((c + 1 : Nat) : Int) by omega, b1 k (by omega)]
    cases hA : allF w c ⟨#[98]⟩ ⟨#[97]⟩ [] with
    | cons x t =>
      rw [hA] at a2
      have a2 : r1 = (zs x, true) := a2
      subst a2
      exact ⟨(zs x, 0), K1 + K2 + 2, fun k hk => by rw [hgo k hk]; rfl, .inl ⟨c, x, t, Nat.le_refl _, by omega, hA, fun q q1 q2 => by omega, rfl⟩⟩
    | nil =>
      rw [hA] at a2
      have a2 : r1.2 = false := a2
      refine ⟨r2, K1 + K2 + 2, fun k hk => by rw [hgo k hk, a2]; rfl, ?_⟩
      have hq : ∀ P : Nat → Prop, P c → ∀ q, (c + 1 ≤ q → P q) → c ≤ q → P q := fun P hP q h1 h2 => by
        rcases Nat.lt_or_eq_of_le h2 with g | g
        · exact h1 g
        · exact g ▸ hP
      rcases b2 with ⟨c', x, t, c1, c2, c3, c4, c5⟩ | ⟨c4, c5⟩
      · exact .inl ⟨c', x, t, by omega, c2, c3, fun q q1 q2 => hq (fun q => allF w q ⟨#[98]⟩ ⟨#[97]⟩ [] = []) hA q (fun g => c4 q g q2) q1, c5⟩
      · exact .inr ⟨fun q q1 q2 => hq (fun q => allF w q ⟨#[98]⟩ ⟨#[97]⟩ [] = []) hA q (fun g => c4 q g q2) q1, c5⟩

end Go.Proofs.YtippkbjdifmdnaaDoor.PF

namespace Go.Proofs.YtippkbjdifmdnaaDoor.PF
open Go.RowKit Go.Proofs.YtippkbjdifmdnaaDoorW.PrintWords Go.Proofs.YtippkbjdifmdnaaDoorW.PrintLast Go.Proofs.YtippkbjdifmdnaaDoorW.PrintMore
set_option linter.unusedVariables false
set_option linter.unusedSimpArgs false
set_option maxRecDepth 20000

/-! ### the order of lists -/
def sgn (x y : Int) : Int := if x < y then -1 else if x > y then 1 else 0
theorem cmpI_f (x y : Int) : cmp_Compare_int.f x y = some (sgn x y) := by
  unfold cmp_Compare_int.f cmp_isNaN_int.f sgn
  simp only [bne_self_eq_false, Option.bind_some, Bool.false_eq_true, if_false]
  split
  · rfl
  · split <;> rfl
theorem cmpI64_f (x y : Int) : cmp_Compare_int64.f x y = some (sgn x y) := by
  unfold cmp_Compare_int64.f cmp_isNaN_int64.f sgn
  simp only [bne_self_eq_false, Option.bind_some, Bool.false_eq_true, if_false]
  split
  · rfl
  · split <;> rfl
def cmpL : List Nat → List Nat → Int
  | [], [] => 0
  | [], _ :: _ => -1
  | _ :: _, [] => 1
  | x :: xs, y :: ys => if sgn x y = 0 then cmpL xs ys else sgn x y
theorem cmpL_neg : ∀ x y : List Nat, cmpL x y < 0 ↔ x < y
  | [], [] => by simp [cmpL]
  | [], y :: ys => by simp [cmpL]
  | x :: xs, [] => by simp [cmpL]
  | x :: xs, y :: ys => by
    have ih := cmpL_neg xs ys
    rw [cmpL, List.cons_lt_cons_iff]
    rcases Nat.lt_trichotomy x y with h | h | h
    · have e : sgn (x : Int) (y : Int) = -1 := by unfold sgn; rw [if_pos (by omega)]
      rw [e, if_neg (by omega)]
      exact ⟨fun _ => .inl h, fun _ => by omega⟩
    · subst h
      have e : sgn (x : Int) (x : Int) = 0 := by unfold sgn; rw [if_neg (by omega), if_neg (by omega)]
      rw [e, if_pos rfl, ih]
      exact ⟨fun g => .inr ⟨rfl, g⟩, fun g => g.elim (fun q => by omega) (fun q => q.2)⟩
    · have e : sgn (x : Int) (y : Int) = 1 := by unfold sgn; rw [if_neg (by omega), if_pos (by omega)]
      rw [e, if_neg (by omega)]
      exact ⟨fun q => by omega, fun q => q.elim (fun q => by omega) (fun q => by omega)⟩
theorem zs_get (l : List Nat) (i : Nat) (h : i < l.length) : rd (zs l) (i : Int) = ((l[i] : Nat) : Int) := by
  rw [rd_nat _ i (by rw [zs_length]; exact h)]; simp [zs]
theorem cmp_loop (a b : List Nat) (ha : a.length ≤ 1000) : ∀ (d k i : Nat), i + d = a.length → i ≤ b.length → d < k → slices_Compare_int64_int64.l0 k (zs a) (zs b) (zs a) (a.length : Int) (i : Int) = some (cmpL (a.drop i) (b.drop i)) := by
  intro d
  induction d with
  | zero =>
    intro k i hi hb hk
    obtain ⟨k, rfl⟩ : ∃ m, k = m + 1 := ⟨k - 1, by omega⟩
    rw [slices_Compare_int64_int64.l0, if_neg (by omega), zs_length, zs_length, show a.drop i = [] from List.drop_eq_nil_of_le (by omega)]
    by_cases h : a.length < b.length
    · rw [if_pos (by omega), List.drop_eq_getElem_cons (l := b) (i := i) (by omega)]; rfl
    · rw [if_neg (by omega), show b.drop i = [] from List.drop_eq_nil_of_le (by omega)]; rfl
  | succ d ih =>
    intro k i hi hb hk
    obtain ⟨k, rfl⟩ : ∃ m, k = m + 1 := ⟨k - 1, by omega⟩
    have hia : i < a.length := by omega
    rw [slices_Compare_int64_int64.l0, if_pos (by omega), if_pos (by omega), if_pos (by rw [zs_length]; omega), zs_length, List.drop_eq_getElem_cons hia]
    by_cases h : i < b.length
    · rw [if_neg (by omega), if_pos (by omega), cmpI64_f, Option.bind_some, zs_get a i hia, zs_get b i h, List.drop_eq_getElem_cons h, cmpL, lsI (by omega) (by omega), show (i : Int) + 1 = ((i + 1 : Nat) : Int) by omega]
      split
      · exact ih k (i + 1) (by omega) (by omega) (by omega)
      · rfl
    · rw [if_pos (by omega), show b.drop i = [] from List.drop_eq_nil_of_le (by omega)]; rfl
theorem or_f (x y : Int) (k : Nat) (hk : 5 < k) : cmp_Or_int.f k [x, y] = some (if x = 0 then y else x) := by
  obtain ⟨k, rfl⟩ : ∃ m, k = m + 3 := ⟨k - 3, by omega⟩
  have e1 : wrap64 (0 + 1) = 1 := by unfold wrap64; omega
  have e2 : wrap64 (1 + 1) = 2 := by unfold wrap64; omega
  have r0 : rd [x, y] 0 = x := rfl
  have r1 : rd [x, y] 1 = y := rfl
  unfold cmp_Or_int.f
  simp only [cmp_Or_int.l0, List.length_cons, List.length_nil, r0, r1, e1, e2]
  by_cases hx : x = 0
  · subst hx
    by_cases hy : y = 0
    · subst hy; simp
    · simp [hy]
  · simp [hx]
theorem bestB_f (l b : List Nat) (a : Bool) (hl : l.length ≤ 100) (k : Nat) (hk : 2000 < k) : bestB k (zs l) a (zs b) = some (decide (a = false ∨ lessL l b = true)) := by
  unfold bestB
  cases a with
  | false => simp
  | true =>
    have hc := cmp_loop l b (by omega) l.length k 0 (by omega) (by omega) (by omega)
    rw [List.drop_zero, List.drop_zero] at hc
    have hc' : slices_Compare_int64_int64.f k (zs l) (zs b) = some (cmpL l b) := by
      unfold slices_Compare_int64_int64.f
      rw [zs_length]; exact hc
    rw [if_pos rfl, cmpI_f, Option.bind_some, hc', Option.bind_some, or_f _ _ k (by omega), Option.bind_some, zs_length, zs_length]
    congr 1
    have hn := cmpL_neg l b
    unfold sgn lessL
    by_cases h1 : l.length < b.length
    · simp [h1]
    · by_cases h2 : l.length > b.length
      · have h3 : ¬ l.length = b.length := by omega
        simp [h1, h2, h3]
      · have h3 : l.length = b.length := by omega
        by_cases h4 : l < b
        · simp [h3, h4, hn.2 h4]
        · have h5 : ¬ cmpL l b < 0 := fun g => h4 (hn.1 g)
          simp [h3, h4, h5]

/-! ### what is kept -/
def sg (s : Bool × List Nat) : Bool × List Int := (s.1, zs s.2)
theorem stdD_f (w own : ByteArray) (l : List Nat) (hl : l.length ≤ 100) (s : Bool × List Nat) (k : Nat) (hk : 2000 < k) : stdD k w own (zs l) (sg s) = some (sg (if own = w then stepL s l else s)) := by
  unfold stdD
  by_cases e : own = w
  · subst e
    rw [if_pos rfl, if_pos rfl]
    show (bestB k (zs l) s.1 (zs s.2)).bind _ = _
    rw [bestB_f l s.2 s.1 hl k hk, Option.bind_some]
    unfold stepL
    by_cases g : s.1 = false ∨ lessL l s.2 = true
    · rw [decide_eq_true g, if_pos rfl, if_pos g]; rfl
    · rw [decide_eq_false g, if_neg (by simp), if_neg g]
  · have : ¬ own.toList = w.toList := fun q => e (ByteArray.ext (Array.toList_inj.1 (by rw [← ByteArray.toList_eq, ← ByteArray.toList_eq]; exact q)))
    rw [if_neg this, if_neg e]
theorem stdL_step (w : ByteArray) (hw : w.size ≤ 60) (l : List Nat) (m : Nat) (hl : l.length + (m + 1) = 20) (own last : ByteArray) (h1 : 1 ≤ own.size) (h2 : own.size ≤ 200) (h3 : last.size ≤ 200)
    (hch : ∀ d : Nat, min l.length 1 ≤ d → own.size * d + last.size ≤ w.size → ∀ s : Bool × List Nat, ∃ K, ∀ k, K ≤ k → stdE k w own (rep own d ++ last) (zs (l ++ [d])) (sg s) = some (sg ((hits w m own (rep own d ++ last) (l ++ [d])).foldl stepL s))) :
    ∀ (e d : Nat) (s : Bool × List Nat), min l.length 1 ≤ d → 62 ≤ e + d → d ≤ 100 → ∃ K, ∀ k, K ≤ k → stdL w k last own (zs l) (d : Int) (sg s) =
      some (sg (((kids w.size own.size last.size e d).flatMap fun d => if pre w (rep own d ++ last) = true then hits w m own (rep own d ++ last) (l ++ [d]) else []).foldl stepL s)) := by
  have hrep : ∀ d : Nat, d ≤ 100 → strings_Repeat.f own (d : Int) = some (rep own d) := fun d hd => by
    have hm : own.size * d ≤ 200 * 100 := Nat.mul_le_mul h2 hd
    unfold strings_Repeat.f
    rw [if_pos ⟨by omega, by omega, by rw [Int.toNat_natCast]; omega⟩, Int.toNat_natCast]
  have hmul : ∀ d : Nat, d ≤ 100 → own.size * d ≤ 200 * 100 := fun d hd => Nat.mul_le_mul h2 hd
  intro e
  induction e with
  | zero =>
    intro d s hd he hd2
    refine ⟨1, fun k hk => ?_⟩
    obtain ⟨k, rfl⟩ : ∃ q, k = q + 1 := ⟨k - 1, by omega⟩
    have hm : 1 * 62 ≤ own.size * d := Nat.mul_le_mul h1 (by omega)
    have hm2 := hmul d hd2
    have hsz : (rep own d ++ last).size = own.size * d + last.size := by rw [ByteArray.size_append, rep_sz]
    rw [stdL, hrep d hd2, Option.bind_some, if_pos (by rw [rep_sz]; omega), if_pos (by omega)]
    simp [kids]
  | succ e ih =>
    intro d s hd he hd2
    have hm2 := hmul d hd2
    have hsz : (rep own d ++ last).size = own.size * d + last.size := by rw [ByteArray.size_append, rep_sz]
    unfold kids
    by_cases hc : own.size * d + last.size ≤ w.size
    · rw [if_pos hc, List.flatMap_cons, List.foldl_append]
      have hd60 : d ≤ 60 := by
        rcases Nat.lt_or_ge 60 d with q | q
        · have hm : 1 * 61 ≤ own.size * d := Nat.mul_le_mul h1 (by omega)
          omega
        · exact q
      have hpf : strings_HasPrefix.f w (rep own d ++ last) = some (pre w (rep own d ++ last)) := hasPrefix_f w _ (by omega)
      have hnext : ∀ s', ∃ K, ∀ k, K ≤ k → stdL w k last own (zs l) (wrap64 ((d : Int) + 1)) (sg s') = some (sg (((kids w.size own.size last.size e (d + 1)).flatMap fun d => if pre w (rep own d ++ last) = true then hits w m own (rep own d ++ last) (l ++ [d]) else []).foldl stepL s')) := fun s' => by
        obtain ⟨K, h⟩ := ih (d + 1) s' (by omega) (by omega) (by omega)
        refine ⟨K, fun k hk => ?_⟩
        rw [lsI (by omega) (by omega), show (d : Int) + 1 = ((d + 1 : Nat) : Int) by omega]
        exact h k hk
      by_cases hp : pre w (rep own d ++ last) = true
      · rw [if_pos hp]
        obtain ⟨K1, a1⟩ := hch d hd hc s
        obtain ⟨K2, a2⟩ := hnext ((hits w m own (rep own d ++ last) (l ++ [d])).foldl stepL s)
        refine ⟨K1 + K2 + 1, fun k hk => ?_⟩
        obtain ⟨k, rfl⟩ : ∃ q, k = q + 1 := ⟨k - 1, by omega⟩
        have hcl : slices_Clone_int64_int64.f (zs l) = some (zs l) := by
          unfold slices_Clone_int64_int64.f
          rw [if_pos (by rw [zs_length]; omega)]
        have hE := a1 k (by omega)
        rw [zs_append] at hE
        rw [stdL, hrep d hd2, Option.bind_some, if_pos (by rw [rep_sz]; omega), if_neg (by omega), if_neg (by rw [zs_length]; omega), hpf, hp, Option.bind_some, if_pos rfl, hcl, Option.bind_some, if_pos (by rw [zs_length]; omega)]
        show (stdE k w own (rep own d ++ last) (zs l ++ [(d : Int)]) (sg s)).bind _ = _
        rw [hE, Option.bind_some]
        exact a2 k (by omega)
      · rw [if_neg hp]
        have hp' : pre w (rep own d ++ last) = false := by simpa using hp
        obtain ⟨K2, a2⟩ := hnext s
        refine ⟨K2 + 1, fun k hk => ?_⟩
        obtain ⟨k, rfl⟩ : ∃ q, k = q + 1 := ⟨k - 1, by omega⟩
        rw [stdL, hrep d hd2, Option.bind_some, if_pos (by rw [rep_sz]; omega), if_neg (by omega), if_neg (by rw [zs_length]; omega), hpf, hp', Option.bind_some, if_neg (by simp)]
        exact a2 k (by omega)
    · rw [if_neg hc]
      refine ⟨1, fun k hk => ?_⟩
      obtain ⟨k, rfl⟩ : ∃ q, k = q + 1 := ⟨k - 1, by omega⟩
      rw [stdL, hrep d hd2, Option.bind_some, if_pos (by rw [rep_sz]; omega), if_pos (by omega)]; rfl

theorem min_one (l : List Nat) : (if ((zs l).length : Int) < 1 then ((zs l).length : Int) else 1) = ((min l.length 1 : Nat) : Int) := by
  rw [zs_length]; split <;> omega
theorem stdE_fold (w : ByteArray) (hw : w.size ≤ 60) : ∀ (m : Nat) (last own : ByteArray) (l : List Nat), l.length + m = 20 → 1 ≤ own.size → 1 ≤ last.size → last.size ≤ 200 → own.size ≤ 200 → ∀ s : Bool × List Nat,
    ∃ K, ∀ k, K ≤ k → stdE k w last own (zs l) (sg s) = some (sg ((hits w m last own l).foldl stepL s)) := by
  intro m
  induction m with
  | zero =>
    intro last own l hl h1 h0 h2 h3 s
    refine ⟨3000, fun k hk => ?_⟩
    obtain ⟨k, rfl⟩ : ∃ q, k = q + 1 := ⟨k - 1, by omega⟩
    unfold stdE
    rw [stdD_f w own l (by omega) s _ (by omega), Option.bind_some, min_one, show min l.length 1 = 1 by omega, stdL]
    have hrep : strings_Repeat.f own ((1 : Nat) : Int) = some (rep own 1) := by
      unfold strings_Repeat.f
      rw [if_pos ⟨by omega, by omega, by rw [Int.toNat_natCast]; omega⟩, Int.toNat_natCast]
    rw [hrep, Option.bind_some, if_pos (by rw [rep_sz]; omega)]
    have e : sg (if own = w then stepL s l else s) = sg ((hits w 0 last own l).foldl stepL s) := by
      unfold hits; split <;> rfl
    rw [e]
    split
    · rfl
    · rw [if_pos (by rw [zs_length]; omega)]
  | succ m ih =>
    intro last own l hl h1 h0 h2 h3 s
    obtain ⟨K, hK⟩ := stdL_step w hw l m hl own last h1 h3 h2 (fun d hd hc s' => ih own (rep own d ++ last) (l ++ [d]) (by simp; omega) (by rw [ByteArray.size_append]; omega) h1 h3 (by rw [ByteArray.size_append, rep_sz]; omega) s') 62 (min l.length 1) (if own = w then stepL s l else s) (Nat.le_refl _) (by omega) (by omega)
    refine ⟨K + 3000, fun k hk => ?_⟩
    unfold stdE
    rw [stdD_f w own l (by omega) s _ (by omega), Option.bind_some, min_one, hK k (by omega)]
    have e : hits w (m + 1) last own l = (if own = w then [l] else []) ++ ((kids w.size own.size last.size 62 (min l.length 1)).flatMap fun d => if pre w (rep own d ++ last) = true then hits w m own (rep own d ++ last) (l ++ [d]) else []) := rfl
    rw [e, List.foldl_append]
    split <;> rfl

end Go.Proofs.YtippkbjdifmdnaaDoor.PF
