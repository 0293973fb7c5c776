/- Lists of words: equal, marked and held. -/
import Derived.Test.YtippkbjdifmdnaaPFLibE
import Derived.Test.YtippkbjdifmdnaaPFx17
import Derived.Test.YtippkbjdifmdnaaPFx20
import Derived.Test.YtippkbjdifmdnaaPFx21
namespace Go.Proofs.Ytippkbjdifmdnaa.PF
open Go.RowKit Go.Proofs.YtippkbjdifmdnaaW.PrintWords Go.Proofs.YtippkbjdifmdnaaW.PrintLast Go.Proofs.YtippkbjdifmdnaaW.PrintMore
set_option linter.unusedVariables false
set_option linter.unusedSimpArgs false

theorem eqS_loop (l : List ByteArray) (hl : l.length ≤ 4000000000000) : ∀ (d k i : Nat), i + d = l.length → d < k → laws_eqStringS.l0 k l l (i : Int) = some true := by
  intro d
  induction d with
  | zero =>
    intro k i hd hk
    obtain ⟨k, rfl⟩ : ∃ m, k = m + 1 := ⟨k - 1, by omega⟩
    simp only [laws_eqStringS.l0]; rw [if_neg (by omega)]
  | succ d ih =>
    intro k i hd hk
    obtain ⟨k, rfl⟩ : ∃ m, k = m + 1 := ⟨k - 1, by omega⟩
    simp only [laws_eqStringS.l0]
    rw [if_pos (by omega), if_pos (by omega), if_pos (by omega), if_pos trivial, wrap_succ (by omega), ih k (i + 1) (by omega) (by omega)]

theorem eqS_ev (l : List ByteArray) (hl : l.length ≤ 4000000000000) : Ev (fun k => laws_eqStringS.f k l l) true :=
  ⟨l.length + 1, fun k hk => by
    have h := eqS_loop l hl l.length k 0 (by omega) (by omega)
    simp only [laws_eqStringS.f, if_true]; exact h⟩

theorem strOfNums_one (x : Int) : (strOfNums [x]).size = 1 := by simp [strOfNums, ByteArray.size]

theorem text_loop : ∀ (n : Nat) (s : ByteArray), s.size + n ≤ 8000000000000 → ∃ t, ∀ k, n < k → laws_markText.l0 k (n : Int) s = some t := by
  intro n
  induction n using Nat.strongRecOn with
  | _ n ih =>
    intro s hs
    by_cases hn : n = 0
    · subst hn
      refine ⟨(⟨#[109]⟩ : ByteArray) ++ s, fun k hk => ?_⟩
      obtain ⟨k, rfl⟩ : ∃ m, k = m + 1 := ⟨k - 1, by omega⟩
      simp only [laws_markText.l0]; rw [if_neg (by omega), if_pos (by omega)]
    · have hd : Int.tdiv (n : Int) 10 = ((n / 10 : Nat) : Int) := by rw [show (10 : Int) = ((10 : Nat) : Int) from rfl, ← Int.ofNat_tdiv]
      have hw : wrap64 (Int.tdiv (n : Int) 10) = ((n / 10 : Nat) : Int) := by rw [hd]; exact wrap_nat rfl (by omega)
      obtain ⟨t, ht⟩ := ih (n / 10) (by omega) (strOfNums [(wrap64 (48 + (Int.tmod (n : Int) 10))) % 256] ++ s) (by rw [ByteArray.size_append, strOfNums_one]; omega)
      refine ⟨t, fun k hk => ?_⟩
      obtain ⟨k, rfl⟩ : ∃ m, k = m + 1 := ⟨k - 1, by omega⟩
      simp only [laws_markText.l0, hw, Option.bind_some]
      rw [if_pos (by omega), if_pos (by rw [strOfNums_one]; omega), ht k (by omega)]

theorem text_ex (n : Nat) : ∃ t, n ≤ 8000000000000 → ∀ k, n < k → laws_markText.f k (n : Int) = some t := by
  by_cases hn : n ≤ 8000000000000
  · by_cases h0 : n = 0
    · subst h0
      exact ⟨_, fun _ k hk => by unfold laws_markText.f; rw [if_pos (by omega)]⟩
    · obtain ⟨t, ht⟩ := text_loop n ⟨#[]⟩ (by show 0 + n ≤ _; omega)
      exact ⟨t, fun _ k hk => by unfold laws_markText.f; rw [if_neg (by omega), ht k hk]⟩
  · exact ⟨ByteArray.empty, fun h => absurd h hn⟩

noncomputable def mtx (n : Nat) : ByteArray := Classical.choose (text_ex n)
theorem mtx_f (n k : Nat) (hn : n ≤ 8000000000000) (hk : n < k) : laws_markText.f k (n : Int) = some (mtx n) := Classical.choose_spec (text_ex n) hn k hk

theorem markS_loop : ∀ (d i : Nat) (l : List ByteArray), i + d = l.length → l.length ≤ 4000000000000 → (∀ j, j < i → rdOf ByteArray.empty l (j : Int) = mtx (j + 1)) →
    ∃ r, (∀ k, l.length + d + 2 < k → laws_markStringS.l0 k l ((i : Int) + 1) (i : Int) = some ((l.length : Int) + 1, r)) ∧ r.length = l.length ∧ (∀ j, j < l.length → rdOf ByteArray.empty r (j : Int) = mtx (j + 1)) := by
  intro d
  induction d with
  | zero =>
    intro i l hd hl hj
    refine ⟨l, fun k hk => ?_, rfl, fun j h => hj j (by omega)⟩
    obtain ⟨k, rfl⟩ : ∃ m, k = m + 1 := ⟨k - 1, by omega⟩
    simp only [laws_markStringS.l0]; rw [if_neg (by omega), show i = l.length by omega]
  | succ d ih =>
    intro i l hd hl hj
    obtain ⟨r, h1, h2, h3⟩ := ih (i + 1) (l.set i (mtx (i + 1))) (by rw [List.length_set]; omega) (by rw [List.length_set]; exact hl) (fun j h => by
      rw [rdOf_nat _ _ _ (by rw [List.length_set]; omega), List.getElem_set]
      by_cases e : i = j
      · rw [if_pos e, e]
      · rw [if_neg e, ← rdOf_nat ByteArray.empty _ _ (by omega)]; exact hj j (by omega))
    rw [List.length_set] at h1 h2 h3
    refine ⟨r, fun k hk => ?_, h2, h3⟩
    obtain ⟨k, rfl⟩ : ∃ m, k = m + 1 := ⟨k - 1, by omega⟩
    simp only [laws_markStringS.l0]
    rw [if_pos (by omega), show (i : Int) + 1 = ((i + 1 : Nat) : Int) from rfl, mtx_f (i + 1) k (by omega) (by omega)]
    simp only [Option.bind_some]
    rw [if_pos (by omega), Int.toNat_natCast, wrap_succ (i := i + 1) (by omega), show wrap64 ((i + 1 : Nat) : Int) = ((i + 1 : Nat) : Int) from wrap_nat rfl (by omega)]
    exact h1 k (by omega)

theorem heldS_loop (r : List ByteArray) (hl : r.length ≤ 4000000000000) (h : ∀ j, j < r.length → rdOf ByteArray.empty r (j : Int) = mtx (j + 1)) : ∀ (d k i : Nat), i + d = r.length → r.length + d + 2 < k → laws_heldStringS.l0 k r ((i : Int) + 1) (i : Int) = some ((r.length : Int) + 1) := by
  intro d
  induction d with
  | zero =>
    intro k i hd hk
    obtain ⟨k, rfl⟩ : ∃ m, k = m + 1 := ⟨k - 1, by omega⟩
    simp only [laws_heldStringS.l0]; rw [if_neg (by omega), show i = r.length by omega]
  | succ d ih =>
    intro k i hd hk
    obtain ⟨k, rfl⟩ : ∃ m, k = m + 1 := ⟨k - 1, by omega⟩
    simp only [laws_heldStringS.l0]
    rw [if_pos (by omega), if_pos (by omega), show (i : Int) + 1 = ((i + 1 : Nat) : Int) from rfl, mtx_f (i + 1) k (by omega) (by omega)]
    simp only [Option.bind_some]
    rw [if_pos (by rw [h i (by omega)]), wrap_succ (i := i + 1) (by omega), show wrap64 ((i + 1 : Nat) : Int) = ((i + 1 : Nat) : Int) from wrap_nat rfl (by omega)]
    exact ih k (i + 1) (by omega) (by omega)

/-- A marked list is held, as long as nothing writes it. -/
theorem markS_ev (l : List ByteArray) (hl : l.length ≤ 4000000000000) : ∃ r, Ev (fun k => laws_markStringS.f k l 1) ((l.length : Int) + 1, r) ∧ Ev (fun k => laws_heldStringS.f k r 1) ((l.length : Int) + 1) := by
  obtain ⟨r, h1, h2, h3⟩ := markS_loop l.length 0 l (by omega) hl (fun j h => by omega)
  refine ⟨r, ⟨l.length + l.length + 3, fun k hk => ?_⟩, ⟨l.length + l.length + 3, fun k hk => ?_⟩⟩
  · have := h1 k (by omega)
    unfold laws_markStringS.f; exact this
  · have := heldS_loop r (by omega) (fun j h => h3 j (by omega)) r.length k 0 (by omega) (by omega)
    rw [h2] at this
    unfold laws_heldStringS.f; exact this

end Go.Proofs.Ytippkbjdifmdnaa.PF
