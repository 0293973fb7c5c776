/- What holds for seeds, covers and borders, and what the functions on them return. -/
import Derived.Test.YtcfphjjdbccnoaaGreatPFLibZZ
import Derived.Test.YtcfphjjdbccnoaaGreatPFLibYc
import Derived.Test.YtcfphjjdbccnoaaGreatPFLibPe
import Derived.Test.YtcfphjjdbccnoaaGreatPFGivW
import Derived.Test.YtcfphjjdbccnoaaGreatPFx5
import Derived.Test.YtcfphjjdbccnoaaGreatPFx7
import Derived.Test.YtcfphjjdbccnoaaGreatPFx7
import Derived.Test.YtcfphjjdbccnoaaGreatPFx7
import Derived.Test.YtcfphjjdbccnoaaGreatPFx3
import Derived.Test.YtcfphjjdbccnoaaGreatPFx6
import Derived.Test.YtcfphjjdbccnoaaGreatPFx3
import Derived.Test.YtcfphjjdbccnoaaGreatPFx6
import Derived.Test.YtcfphjjdbccnoaaGreatPFx2
import Derived.Test.YtcfphjjdbccnoaaGreatPFx3
namespace Go.Proofs.YtcfphjjdbccnoaaGreat.PF
open Go.RowKit Go.Proofs.YtcfphjjdbccnoaaGreatW.PrintWords Go.Proofs.YtcfphjjdbccnoaaGreatW.PrintLast Go.Proofs.YtcfphjjdbccnoaaGreatW.PrintMore
set_option linter.unusedVariables false
set_option linter.unusedSimpArgs false
set_option maxRecDepth 20000

theorem empty_iff (a : ByteArray) : a.toList = ([] : List UInt8) ↔ a.size = 0 := by
 rw [toList_eq]
 constructor
 ·
  intro h; have := congrArg List.length h; rw [Array.length_toList] at this; exact this
 ·
  intro h; exact List.eq_nil_of_length_eq_zero (by rw [Array.length_toList]; exact h)
theorem mem_cvs (w u : ByteArray) : ∀ d m, u ∈ cvF w d m → ∃ q, m ≤ q ∧ q < m + d ∧ u = w.extract 0 q ∧ isC w u = true
 | 0, m, h => by cases h
 | d + 1, m, h => by
  have ih := mem_cvs w u d (m + 1)
  rw [cvF] at h
  split at h
  ·
   rename_i c
   rcases List.mem_cons.1 h with rfl | h
   ·
    exact ⟨m, Nat.le_refl _, by omega, rfl, c⟩
   ·
    obtain ⟨q, h1, h2, h3⟩ := ih h; exact ⟨q, by omega, by omega, h3⟩
  ·
   obtain ⟨q, h1, h2, h3⟩ := ih h; exact ⟨q, by omega, by omega, h3⟩
theorem allT_setR {c : List Bool} (h : allT c = true) (d i : Nat) : allT (setR d i c) = true := by
 refine allT_of fun j hj => ?_
 rw [setR_length] at hj
 rw [setR_get, allT_get h j hj, Bool.true_or]
theorem isC_isSd {w u : ByteArray} (h : isC w u = true) : isSd w u = true := by
 unfold isSd
 have h1 : allT (putP (cov w u) (bord (seedP w u) (u.size - 1))) = true := by
  cases bord (seedP w u) (u.size - 1) with
  | none => exact h
  | some m => exact allT_setR h _ _
 cases bord (seedS w u) (u.size - 1) with
 | none => exact h1
 | some m => exact allT_setR h1 _ _
/-- The code of a word and a word that is to cover it. -/
def cod2 (w u : ByteArray) : Int := codeW (filled [u]) (w :: [u])
theorem cod2_zero {w u : ByteArray} (h : cod2 w u = 0) : isW w = true ∧ isW u = true ∧ 0 < u.size := by
 have hc0 := codeW_zero.1 h
 have hall0 := hc0.1
 rw [List.all_eq_true] at hall0
 refine ⟨hall0 w (by simp), hall0 u (by simp), ?_⟩
 rcases Nat.eq_zero_or_pos u.size with h | h
 ·
  exfalso
  have := (empty_iff u).2 h
  have hf := hc0.2
  simp [filled, this] at hf
 ·
  exact h
theorem cod2_of {w u : ByteArray} (h1 : isW w = true) (h2 : isW u = true) (h3 : 0 < u.size) : cod2 w u = 0 := by
 refine codeW_zero.2 ⟨by simp [h1, h2], ?_⟩
 have : ¬ u.toList = ([] : List UInt8) := fun e => by have := (empty_iff u).1 e; omega
 simp [filled, this]
theorem isCover_ev (w u : ByteArray) : Ev (fun k => impl_IsCover.f k w u) (if cod2 w u = 0 then (isC w u, 0) else (false, cod2 w u)) := by
 unfold impl_IsCover.f
 simp only [coverCode_f _ _ w [u] (by simp), Bool.true_and, Option.bind_some]
 by_cases h0 : cod2 w u = 0
 ·
  obtain ⟨hw1, hu1, hz⟩ := cod2_zero h0
  have hs := isW_size hw1
  rw [if_pos h0]
  have h0' : codeW (filled [u]) (w :: [u]) = 0 := h0
  simp only [h0', if_true]
  exact ev_bnd ⟨10001, fun k hk => isCovered_one w u hs hu1 k (by omega)⟩ (ev_of rfl)
 ·
  rw [if_neg h0]
  have h0' : ¬ codeW (filled [u]) (w :: [u]) = 0 := h0
  simp only [h0', if_false]; exact ev_of rfl
theorem leastCover_ev {w : ByteArray} (h0 : isW w = true) (hz : 0 < w.size) : ∃ m, 1 ≤ m ∧ m ≤ w.size ∧ isC w (w.extract 0 m) = true ∧ Ev (fun k => impl_LeastCover.f k w) (w.extract 0 m, 0) := by
 have hs := isW_size h0
 have hp := cvs_pos w hz
 have hc : codeW true [w] = 0 := codeW_zero.2 ⟨by simp [h0], rfl⟩
 have he : ¬ w.toList = ([] : List UInt8) := fun e => by have := (empty_iff w).1 e; omega
 obtain ⟨m, h1, h2, h3, h4⟩ := mem_cvs w _ _ _ (List.getElem_mem hp)
 refine ⟨m, h1, by omega, h3 ▸ h4, ?_⟩
 unfold impl_LeastCover.f impl_always.f
 simp only [wordCode_f, Option.bind_some, hc, if_true, he, if_false]
 refine ev_bnd ⟨10101, fun k hk => impl_covers_f w h0 k (by omega)⟩ ?_
 simp only [show 0 < ((cvs w).length : Int) by omega, if_true]
 refine ev_of ?_
 have e := rdOf_nat ByteArray.empty (cvs w) 0 hp
 rw [show ((0 : Nat) : Int) = 0 from rfl] at e
 rw [e, h3]

/-- The places that aren't covered. -/
def unc : List Bool → Nat → List Int
 | [], _ => []
 | b :: l, i => if b = true then unc l (i + 1) else (i : Int) :: unc l (i + 1)
theorem unc_length : ∀ l i, (unc l i).length ≤ l.length
 | [], _ => Nat.le_refl _
 | b :: l, i => by
  have := unc_length l (i + 1)
  unfold unc; split <;> simp only [List.length_cons] <;> omega
theorem unc_count : ∀ l i, (unc l i).length + l.countP id = l.length
 | [], _ => rfl
 | b :: l, i => by
  have := unc_count l (i + 1)
  unfold unc
  cases b with
  | true => simp only [if_true, List.length_cons, List.countP_cons, id]; omega
  | false => simp only [Bool.false_eq_true, if_false, List.length_cons, List.countP_cons, id]; omega
theorem un_loop' (l : List Bool) (hl : l.length ≤ 1000) : ∀ (d i : Nat) (acc : List Int), i + d = l.length → acc.length ≤ i → ∀ k, d < k → impl_UncoveredPlaces.l0 k acc l (l.length : Int) (i : Int) = some (acc ++ unc (l.drop i) i, 0) := by
 intro d
 induction d with
 | zero =>
  intro i acc hd ha k hk
  rw [List.drop_eq_nil_of_le (by omega)]
  simp only [unc, List.append_nil]
  obtain ⟨k, rfl⟩ : ∃ n, k = n + 1 := ⟨k - 1, by omega⟩
  simp only [impl_UncoveredPlaces.l0]; rw [if_neg (by omega)]
 | succ d ih =>
  intro i acc hd ha k hk
  have hi : i < l.length := by omega
  have er : rdOf false l (i : Int) = l[i] := rdOf_nat _ _ i hi
  rw [List.drop_eq_getElem_cons hi]
  obtain ⟨k, rfl⟩ : ∃ n, k = n + 1 := ⟨k - 1, by omega⟩
  by_cases c : l[i] = true
  ·
   have h2 := ih (i + 1) acc (by omega) (by omega) k (by omega)
   have e : unc (l[i] :: l.drop (i + 1)) i = unc (l.drop (i + 1)) (i + 1) := by rw [unc, if_pos c]
   rw [e]
   rw [← er] at c
   simp only [impl_UncoveredPlaces.l0]
   rw [if_pos (by omega), if_pos (by omega), if_pos (by omega), if_pos c, wrap_succ (by omega)]; exact h2
  ·
   have h2 := ih (i + 1) (acc ++ [(i : Int)]) (by omega) (by simp; omega) k (by omega)
   have e : unc (l[i] :: l.drop (i + 1)) i = (i : Int) :: unc (l.drop (i + 1)) (i + 1) := by rw [unc, if_neg c]
   rw [e]
   rw [List.append_assoc, List.singleton_append] at h2
   rw [← er] at c
   simp only [impl_UncoveredPlaces.l0]
   rw [if_pos (by omega), if_pos (by omega), if_pos (by omega), if_neg c, if_pos (by omega), wrap_succ (by omega)]; exact h2
theorem uncov_ev {w u : ByteArray} (h0 : cod2 w u = 0) : Ev (fun k => impl_UncoveredPlaces.f k w u) (unc (cov w u) 0, 0) := by
 unfold impl_UncoveredPlaces.f
 simp only [coverCode_f _ _ w [u] (by simp), Bool.true_and, Option.bind_some]
 obtain ⟨hw1, hu1, hz⟩ := cod2_zero h0
 have hs := isW_size hw1
 have h0' : codeW (filled [u]) (w :: [u]) = 0 := h0
 have hcl := cov_length w u
 have g2 := un_loop' (cov w u) (by omega) (cov w u).length 0 [] (by omega) (by simp)
 rw [List.nil_append, List.drop_zero] at g2
 simp only [h0', if_true]
 exact ev_bnd ⟨10001, fun k hk => covered_one w u hs hu1 k (by omega)⟩ ⟨100, fun k hk => g2 k (by omega)⟩

/-! ### seeds -/
theorem isSeed_ev2 (w u : ByteArray) (hw : w.size ≤ 100000) (hu : u.size ≤ 100000) : ∃ r : Bool × Int, (r.2 = 0 → cod2 w u = 0 ∧ r.1 = isSd w u ∧ u.size ≤ w.size) ∧ Ev (fun k => spec_IsSeed.f k w u) r ∧ Ev (fun k => impl_IsSeed.f k w u) r := by
 unfold spec_IsSeed.f impl_IsSeed.f
 have hcode := l09Code_ev w [u] (by omega) (by simp) (fun v hv => by simp only [List.mem_cons, List.not_mem_nil, or_false] at hv; subst hv; omega)
 simp only [coverCode_f _ _ w [u] (by simp), Option.bind_some]
 by_cases h0 : codeW (filled [u]) (w :: [u]) = 0
 ·
  have hc0 := codeW_zero.1 h0
  have hall0 := hc0.1
  rw [List.all_eq_true] at hall0
  have hw1 : isW w = true := hall0 w (by simp)
  have hu1 : isW u = true := hall0 u (by simp)
  have hs := isW_size hw1
  have hu2 := isW_size hu1
  have hf : filled [u] = true := hc0.2
  have hz : 1 ≤ u.size := by
   rcases Nat.eq_zero_or_pos u.size with h | h
   ·
    exfalso
    have : u.toList = ([] : List UInt8) := by rw [toList_eq]; exact List.eq_nil_of_length_eq_zero (by rw [Array.length_toList]; exact h)
    simp [filled, this] at hf
   ·
    exact h
  by_cases hle : u.size ≤ w.size
  ·
   have hc2 : codeW (decide ((u.size : Int) ≤ (w.size : Int)) && filled [u]) (w :: [u]) = 0 := codeW_zero.2 ⟨hc0.1, by rw [hf, decide_eq_true (by omega)]; rfl⟩
   refine ⟨(isSd w u, 0), fun _ => ⟨h0, rfl, hle⟩, ev_bnd hcode ?_, ?_⟩
   ·
    simp only [h0, if_true, show decide ((u.size : Int) > (w.size : Int)) = false from decide_eq_false (by omega)]
    refine ev_suc ?_
    simp only [spec_IsSeed.j0, Bool.false_eq_true, if_false, if_true]
    exact ev_bnd ⟨20001, fun k hk => l09Seed_f w u hle hs hz k (by omega)⟩ (ev_of rfl)
   ·
    simp only [hc2, if_true]
    exact ev_bnd ⟨20001, fun k hk => isSeed_f w u hle hs hu1 hz k (by omega)⟩ (ev_of rfl)
  ·
   have hc2 : codeW (decide ((u.size : Int) ≤ (w.size : Int)) && filled [u]) (w :: [u]) = 2 := by
    rw [decide_eq_false (show ¬ (u.size : Int) ≤ (w.size : Int) by omega), Bool.false_and, codeW, if_pos hc0.1]; rfl
   refine ⟨(false, 2), fun h => absurd h (by decide), ev_bnd hcode ?_, ?_⟩
   ·
    simp only [h0, if_true, show decide ((u.size : Int) > (w.size : Int)) = true from decide_eq_true (by omega)]
    refine ev_suc ?_
    simp only [spec_IsSeed.j0, if_true]
    exact ev_of (by simp)
   ·
    simp only [hc2, show ¬ ((2 : Int) = 0) by omega, if_false]; exact ev_of rfl
 ·
  have hc2 : codeW (decide ((u.size : Int) ≤ (w.size : Int)) && filled [u]) (w :: [u]) = codeW (filled [u]) (w :: [u]) := by
   by_cases ha : (w :: [u]).all isW = true
   ·
    have hf : filled [u] = false := by
     by_cases hf : filled [u] = true
     ·
      exact absurd (codeW_zero.2 ⟨ha, hf⟩) h0
     ·
      simpa using hf
    rw [hf, Bool.and_false]
   ·
    simp only [codeW, if_neg ha]
  refine ⟨(false, codeW (filled [u]) (w :: [u])), fun h => absurd h h0, ev_bnd hcode ?_, ?_⟩
  ·
   simp only [h0, if_false]
   refine ev_suc ?_
   simp only [spec_IsSeed.j0, Bool.false_eq_true, if_false, h0]; exact ev_of rfl
  ·
   simp only [hc2, h0, if_false]; exact ev_of rfl

theorem isSeed_ev {w u : ByteArray} (h0 : cod2 w u = 0) (hle : u.size ≤ w.size) : Ev (fun k => impl_IsSeed.f k w u) (isSd w u, 0) := by
 obtain ⟨hw1, hu1, hz⟩ := cod2_zero h0
 have hs := isW_size hw1
 unfold impl_IsSeed.f
 have hc0 := codeW_zero.1 h0
 have hc2 : codeW (decide ((u.size : Int) ≤ (w.size : Int)) && filled [u]) (w :: [u]) = 0 := codeW_zero.2 ⟨hc0.1, by rw [hc0.2, decide_eq_true (by omega)]; rfl⟩
 simp only [coverCode_f _ _ w [u] (by simp), Option.bind_some, hc2, if_true]
 exact ev_bnd ⟨20001, fun k hk => isSeed_f w u hle hs hu1 hz k (by omega)⟩ (ev_of rfl)
theorem seedsOf_ev (w : ByteArray) (m : Int) (hw : w.size ≤ 100000) : ∃ r : List ByteArray × Int, r.1.length ≤ 4000000000000 ∧ Ev (fun k => spec_SeedsOf.f k w m) r ∧ Ev (fun k => impl_SeedsOf.f k w m) r ∧ (∀ n : Nat, m = n → isW w = true → 1 ≤ n → n ≤ 60 → r = (sds w n, 0)) := by
 unfold spec_SeedsOf.f impl_SeedsOf.f impl_SeedsOf_1.f impl_isCoverLength.f
 simp only [within_f, wordCode_f, Option.bind_some]
 by_cases h0 : codeW (inR m 1 60) [w] = 0
 ·
  obtain ⟨n, rfl, hn0, hn⟩ := range_nat h0 (by omega)
  have hs := sz_word h0
  have hw1 : isW w = true := by have := (codeW_zero.1 h0).1; simpa using this
  have hl := sds_length w n
  refine ⟨(sds w n, 0), by show (sds w n).length ≤ _; omega, ev_bnd (l09Length_ev w _ (by omega)) ?_, ?_, ?_⟩
  ·
   simp only [h0, if_true]
   exact ev_bnd ⟨40001, fun k hk => spec_seeds_f w hs n (by omega) (by omega) k (by omega)⟩ (ev_of rfl)
  ·
   simp only [h0, if_true]
   exact ev_bnd ⟨40001, fun k hk => impl_seeds_f w hw1 n (by omega) (by omega) k (by omega)⟩ (ev_of rfl)
  ·
   intro q hq _ _ _
   rw [show q = n by omega]
 ·
  refine ⟨([], codeW (inR m 1 60) [w]), by simp, ev_bnd (l09Length_ev w _ (by omega)) ?_, ?_, ?_⟩
  ·
   simp only [h0, if_false]; exact ev_of rfl
  ·
   simp only [h0, if_false]; exact ev_of rfl
  ·
   intro q hq h1 h2 h3
   exact absurd (codeW_zero.2 ⟨by simp [h1], inR_iff.2 ⟨by omega, by omega⟩⟩) h0

/-- The least length that a word has seeds of. -/
structure LS (w : ByteArray) (m : Nat) : Prop where
 pos : 1 ≤ m
 le : m ≤ w.size
 has : 0 < (sds w m).length
 no : ∀ q, 1 ≤ q → q < m → (sds w q).length = 0
theorem ls_loop (w : ByteArray) (hw : isW w = true) : ∀ (d m : Nat), m + d = w.size → 1 ≤ m → (∀ q, 1 ≤ q → q < m → (sds w q).length = 0) → ∃ r, (∃ q, LS w q ∧ r = (rdOf ByteArray.empty (sds w q) 0, 0)) ∧ (∀ k, 50000 + d < k → spec_LeastSeed.l0 k w (m : Int) = some r) ∧ (∀ k, 50000 + d < k → impl_LeastSeed.l0 k w (m : Int) = some r) := by
 have hs := isW_size hw
 intro d
 induction d with
 | zero =>
  intro m hd hm hno
  obtain rfl : m = w.size := by omega
  refine ⟨(w, 0), ⟨w.size, ⟨hm, Nat.le_refl _, by rw [sds_whole]; simp, hno⟩, by rw [sds_whole]; rfl⟩, fun k hk => ?_, fun k hk => ?_⟩
  ·
   obtain ⟨k, rfl⟩ : ∃ n, k = n + 1 := ⟨k - 1, by omega⟩
   simp only [spec_LeastSeed.l0]; rw [if_neg (by omega)]
  ·
   obtain ⟨k, rfl⟩ : ∃ n, k = n + 1 := ⟨k - 1, by omega⟩
   simp only [impl_LeastSeed.l0]
   rw [if_pos (by omega), impl_seeds_f w hw w.size hm (by omega) k (by omega), sds_whole]
   rfl
 | succ d ih =>
  intro m hd hm hno
  by_cases h : 0 < (sds w m).length
  ·
   refine ⟨(rdOf ByteArray.empty (sds w m) 0, 0), ⟨m, ⟨hm, by omega, h, hno⟩, rfl⟩, fun k hk => ?_, fun k hk => ?_⟩
   ·
    obtain ⟨k, rfl⟩ : ∃ n, k = n + 1 := ⟨k - 1, by omega⟩
    simp only [spec_LeastSeed.l0]
    rw [if_pos (by omega), spec_seeds_f w hs m hm (by omega) k (by omega)]
    simp only [Option.bind_some]
    rw [if_pos (by omega), if_pos (by omega)]
   ·
    obtain ⟨k, rfl⟩ : ∃ n, k = n + 1 := ⟨k - 1, by omega⟩
    simp only [impl_LeastSeed.l0]
    rw [if_pos (by omega), impl_seeds_f w hw m hm (by omega) k (by omega)]
    simp only [Option.bind_some]
    rw [if_pos (by omega), if_pos (by omega)]
  ·
   obtain ⟨r, h0, h1, h2⟩ := ih (m + 1) (by omega) (by omega) (fun q q1 q2 => by
    rcases Nat.lt_or_ge q m with g | g
    ·
     exact hno q q1 g
    ·
     rw [show q = m by omega]; omega)
   refine ⟨r, h0, fun k hk => ?_, fun k hk => ?_⟩
   ·
    obtain ⟨k, rfl⟩ : ∃ n, k = n + 1 := ⟨k - 1, by omega⟩
    simp only [spec_LeastSeed.l0]
    rw [if_pos (by omega), spec_seeds_f w hs m hm (by omega) k (by omega)]
    simp only [Option.bind_some]
    rw [if_neg (by omega), wrap_succ (by omega)]; exact h1 k (by omega)
   ·
    obtain ⟨k, rfl⟩ : ∃ n, k = n + 1 := ⟨k - 1, by omega⟩
    simp only [impl_LeastSeed.l0]
    rw [if_pos (by omega), impl_seeds_f w hw m hm (by omega) k (by omega)]
    simp only [Option.bind_some]
    rw [if_neg (by omega), wrap_succ (by omega)]; exact h2 k (by omega)
theorem leastSeed_ev (w : ByteArray) (hw : w.size ≤ 100000) : ∃ r : ByteArray × Int, (r.2 = 0 → isW w = true ∧ ∃ m, LS w m ∧ r.1 = rdOf ByteArray.empty (sds w m) 0) ∧ Ev (fun k => spec_LeastSeed.f k w) r ∧ Ev (fun k => impl_LeastSeed.f k w) r := by
 unfold spec_LeastSeed.f impl_LeastSeed.f impl_always.f
 simp only [wordCode_f, Option.bind_some]
 by_cases h0 : isW w = true
 ·
  have hs := isW_size h0
  have hc : codeW true [w] = 0 := codeW_zero.2 ⟨by simp [h0], rfl⟩
  by_cases hz : w.size = 0
  ·
   have he : w.toList = ([] : List UInt8) := (empty_iff w).2 hz
   refine ⟨(⟨#[]⟩, 4), fun h => absurd h (by decide), ev_bnd (l01Is_ev w (by omega)) ?_, ?_⟩
   ·
    simp only [h0, if_true, he]; exact ev_of rfl
   ·
    simp only [hc, if_true]
    refine ev_suc ?_
    simp only [impl_LeastSeed.l0, show ¬ ((1 : Int) ≤ (w.size : Int)) by omega, if_false]; exact ev_of rfl
  ·
   have he : ¬ w.toList = ([] : List UInt8) := fun e => hz ((empty_iff w).1 e)
   obtain ⟨r, ⟨m, g3, g4⟩, g1, g2⟩ := ls_loop w h0 (w.size - 1) 1 (by omega) (by omega) (fun q q1 q2 => by omega)
   refine ⟨r, fun _ => ⟨h0, m, g3, by rw [g4]⟩, ev_bnd (l01Is_ev w (by omega)) ?_, ?_⟩
   ·
    simp only [h0, if_true, he, if_false]; exact ⟨50100, fun k hk => g1 k (by omega)⟩
   ·
    simp only [hc, if_true]; exact ⟨50100, fun k hk => g2 k (by omega)⟩
 ·
  have hc : codeW true [w] = 1 := by simp [codeW, h0]
  refine ⟨(⟨#[]⟩, 1), fun h => absurd h (by decide), ev_bnd (l01Is_ev w (by omega)) ?_, ?_⟩
  ·
   simp only [h0, if_false]; exact ev_of rfl
  ·
   simp only [hc, show ¬ ((1 : Int) = 0) by omega, if_false]; exact ev_of rfl

/-! ### borders, and words alike -/
theorem bmap_loop (a : ByteArray) (ha : a.size ≤ 1000) : ∀ (rest pre : List Int) (k : Nat), pre.length + rest.length ≤ 1000 → (∀ x ∈ rest, 0 ≤ x ∧ x ≤ 1000) → rest.length < k →
  impl_BordersOf.l0 k a ((pre.length + rest.length : Nat) : Int) (pre ++ rest) (pre.length : Int) = some (pre ++ rest.map fun x => (a.size : Int) - x) := by
 intro rest
 induction rest with
 | nil =>
  intro pre k h1 h2 hk
  obtain ⟨k, rfl⟩ : ∃ m, k = m + 1 := ⟨k - 1, by omega⟩
  rw [impl_BordersOf.l0, if_neg (by simp)]; simp
 | cons x rest ih =>
  intro pre k h1 h2 hk
  simp only [List.length_cons] at h1 hk
  obtain ⟨k, rfl⟩ : ∃ m, k = m + 1 := ⟨k - 1, by omega⟩
  obtain ⟨x1, x2⟩ := h2 x (by simp)
  have hlen : (pre ++ x :: rest).length = pre.length + rest.length + 1 := by simp; omega
  have hr : rdOf 0 (pre ++ x :: rest) (pre.length : Int) = x := by rw [rdOf_nat _ _ _ (by omega)]; simp
  have he : (pre ++ x :: rest).set pre.length ((a.size : Int) - x) = (pre ++ [(a.size : Int) - x]) ++ rest := by simp
  rw [impl_BordersOf.l0, if_pos (by simp only [List.length_cons]; omega), if_pos (by omega), hr, wrap_id (by omega) (by omega), Int.toNat_natCast, he, wrap_succ (by omega)]
  have := ih (pre ++ [(a.size : Int) - x]) k (by simp; omega) (fun y hy => h2 y (by simp [hy])) (by omega)
  simp only [List.length_append, List.length_singleton] at this
  simp only [List.length_cons]
  rw [show pre.length + 1 + rest.length = pre.length + (rest.length + 1) by omega] at this
  rw [this]
  simp
theorem rev_loop : ∀ (d : Nat) (l : List Int) (i k : Nat), l.length ≤ 1000 → l.length ≤ 2 * i + d + 1 → d < k → ∃ r, (∀ q, d + k ≤ q → slices_Reverse_int64_int64.l0 q l (i : Int) ((l.length : Int) - 1 - i) = some r) ∧ r.length = l.length ∧ ∀ x ∈ l, x ∈ r := by
 intro d
 induction d with
 | zero =>
  intro l i k hl hd hk
  refine ⟨l, fun q hq => ?_, rfl, fun x hx => hx⟩
  obtain ⟨q, rfl⟩ : ∃ m, q = m + 1 := ⟨q - 1, by omega⟩
  rw [slices_Reverse_int64_int64.l0, if_neg (by omega)]
 | succ d ih =>
  intro l i k hl hd hk
  by_cases h : (i : Int) < (l.length : Int) - 1 - i
  ·
   obtain ⟨j, hj⟩ : ∃ j : Nat, (l.length : Int) - 1 - i = j := ⟨((l.length : Int) - 1 - i).toNat, by omega⟩
   have hjl : j < l.length := by omega
   have hil : i < l.length := by omega
   obtain ⟨r, g1, g2, g3⟩ := ih ((l.set i l[j]).set j l[i]) (i + 1) k (by simp; omega) (by simp; omega) (by omega)
   rw [List.length_set, List.length_set] at g1 g2
   refine ⟨r, fun q hq => ?_, g2, fun x hx => g3 x ?_⟩
   ·
    obtain ⟨q, rfl⟩ : ∃ m, q = m + 1 := ⟨q - 1, by omega⟩
    have := g1 q (by omega)
    rw [hj] at h ⊢
    rw [slices_Reverse_int64_int64.l0, if_pos h, if_pos (by omega), if_pos (by omega), if_pos (by omega), if_pos (by omega), rd_nat l j hjl, rd_nat l i hil, Int.toNat_natCast, Int.toNat_natCast, wrap_succ (by omega), wrap_id (by omega) (by omega)]
    rw [← this]; congr 1; omega
   ·
    obtain ⟨t, ht, rfl⟩ := List.getElem_of_mem hx
    rw [List.mem_iff_getElem]
    by_cases e1 : t = i
    ·
     subst e1
     exact ⟨j, by simp; omega, by simp⟩
    ·
     by_cases e2 : t = j
     ·
      subst e2
      refine ⟨i, by simp; omega, ?_⟩
      rw [List.getElem_set_ne (by omega), List.getElem_set_self]
     ·
      refine ⟨t, by simp; omega, ?_⟩
      rw [List.getElem_set_ne (by omega), List.getElem_set_ne (by omega)]
  ·
   refine ⟨l, fun q hq => ?_, rfl, fun x hx => hx⟩
   obtain ⟨q, rfl⟩ : ∃ m, q = m + 1 := ⟨q - 1, by omega⟩
   rw [slices_Reverse_int64_int64.l0, if_neg h]
theorem prs_rng (a : ByteArray) : ∀ d i, ∀ x ∈ prs a d i, (i : Int) ≤ x ∧ x < (i : Int) + d
 | 0, _, x, h => by cases h
 | d + 1, i, x, h => by
  have ih := prs_rng a d (i + 1) x
  unfold prs at h
  split at h
  ·
   rcases List.mem_cons.1 h with rfl | h
   ·
    omega
   ·
    have := ih h; omega
  ·
   have := ih h; omega
theorem borders_ev {w : ByteArray} (h : isW w = true) : ∃ r : List Int, Ev (fun k => impl_BordersOf.f k w) (r, 0) ∧ r.length ≤ 1000 ∧ ∀ p, perB w p = true → 1 ≤ p → p ≤ w.size → ((w.size : Int) - (p : Int)) ∈ r := by
 have hs := isW_size h
 have hl := prs_length w w.size 1
 have hb := bmap_loop w (by omega) (prsOf w) [] 
 obtain ⟨r, g1, g2, g3⟩ := rev_loop 1000 ((prsOf w).map fun x => (w.size : Int) - x) 0 1001 (by rw [List.length_map]; unfold prsOf; omega) (by rw [List.length_map]; unfold prsOf; omega) (by omega)
 rw [List.length_map] at g1 g2
 refine ⟨r, ?_, by rw [g2]; unfold prsOf; omega, fun p h1 h2 h3 => g3 _ (List.mem_map.2 ⟨(p : Int), mem_prs w p h1 _ _ h2 (by omega), rfl⟩)⟩
 unfold impl_BordersOf.f
 refine ev_bnd (iPeriodsOf_ev h) ?_
 simp only [if_true]
 refine ev_bnd (a := (prsOf w).map fun x => (w.size : Int) - x) ⟨1000, fun k hk => ?_⟩ (ev_bnd (a := r) ⟨3000, fun k hk => ?_⟩ (ev_of rfl))
 ·
  have := hb k (by simp only [List.length_nil]; unfold prsOf; omega) (fun x hx => by have := prs_rng w _ _ x hx; omega) (by unfold prsOf; omega)
  simpa using this
 ·
  unfold slices_Reverse_int64_int64.f
  rw [List.length_map, wrap_id (by unfold prsOf; omega) (by unfold prsOf; omega)]
  have := g1 k (by omega)
  simpa using this
theorem words5_loop (l : List ByteArray) (hl : l.length ≤ 4000000000000) : ∀ (d k i : Nat), i + d = l.length → d < k → laws_words5.l0 k l l (i : Int) = some true := by
 intro d
 induction d with
 | zero =>
  intro k i hd hk
  obtain ⟨k, rfl⟩ : ∃ m, k = m + 1 := ⟨k - 1, by omega⟩
  simp only [laws_words5.l0]; rw [if_neg (by omega)]
 | succ d ih =>
  intro k i hd hk
  obtain ⟨k, rfl⟩ : ∃ m, k = m + 1 := ⟨k - 1, by omega⟩
  simp only [laws_words5.l0]
  rw [if_pos (by omega), if_pos (by omega), if_pos (by omega), if_pos trivial, wrap_succ (by omega), ih k (i + 1) (by omega) (by omega)]
theorem words5_ev (l : List ByteArray) (hl : l.length ≤ 4000000000000) : Ev (fun k => laws_words5.f k l l) true :=
 ⟨l.length + 1, fun k hk => by
  have h := words5_loop l hl l.length k 0 (by omega) (by omega)
  simp only [laws_words5.f, if_true]; exact h⟩

end Go.Proofs.YtcfphjjdbccnoaaGreat.PF
