/- What the functions on covers return: the program's and the reference's, for all words that are drawn. -/
import Derived.Test.YtoadancbpgignaaPFLibCw
import Derived.Test.YtoadancbpgignaaPFLibYc
import Derived.Test.YtoadancbpgignaaPFLibPe
import Derived.Test.YtoadancbpgignaaPFGivW
import Derived.Test.YtoadancbpgignaaPFx4
import Derived.Test.YtoadancbpgignaaPFx2
import Derived.Test.YtoadancbpgignaaPFx5
import Derived.Test.YtoadancbpgignaaPFx3
import Derived.Test.YtoadancbpgignaaPFx7
namespace Go.Proofs.Ytoadancbpgignaa.PF
open Go.RowKit Go.Proofs.YtoadancbpgignaaW.PrintWords Go.Proofs.YtoadancbpgignaaW.PrintLast Go.Proofs.YtoadancbpgignaaW.PrintMore
set_option linter.unusedVariables false
set_option linter.unusedSimpArgs false
set_option maxRecDepth 20000

theorem coversOf_ev (w : ByteArray) (hw : w.size ≤ 100000) : Ev (fun k => spec_CoversOf.f k w) (if isW w = true then (cvs w, 0) else ([], 1)) ∧ Ev (fun k => impl_CoversOf.f k w) (if isW w = true then (cvs w, 0) else ([], 1)) := by
 unfold spec_CoversOf.f impl_CoversOf.f impl_always.f
 simp only [wordCode_f, Option.bind_some]
 by_cases h0 : isW w = true
 ·
  have hs := isW_size h0
  have hc : codeW true [w] = 0 := codeW_zero.2 ⟨by simp [h0], rfl⟩
  rw [if_pos h0]
  refine ⟨ev_bnd (l01Is_ev w (by omega)) ?_, ?_⟩
  ·
   simp only [h0, if_true]
   exact ev_bnd ⟨10101, fun k hk => spec_covers_f w hs k (by omega)⟩ (ev_of rfl)
  ·
   simp only [hc, if_true]
   exact ev_bnd ⟨10101, fun k hk => impl_covers_f w h0 k (by omega)⟩ (ev_of rfl)
 ·
  have hc : codeW true [w] = 1 := by simp [codeW, h0]
  rw [if_neg h0]
  refine ⟨ev_bnd (l01Is_ev w (by omega)) ?_, ?_⟩
  ·
   simp only [h0, if_false]; exact ev_of rfl
  ·
   simp only [hc, show ¬ ((1 : Int) = 0) by omega, if_false]; exact ev_of rfl

theorem leastCover_ev (w : ByteArray) (hw : w.size ≤ 100000) : ∃ r : ByteArray × Int, (isW w = true → 0 < w.size → r = (rdOf ByteArray.empty (cvs w) 0, 0)) ∧ Ev (fun k => spec_LeastCover.f k w) r ∧ Ev (fun k => impl_LeastCover.f k w) r := by
 unfold spec_LeastCover.f impl_LeastCover.f impl_always.f
 simp only [wordCode_f, Option.bind_some]
 by_cases h0 : isW w = true
 ·
  have hs := isW_size h0
  have hc : codeW true [w] = 0 := codeW_zero.2 ⟨by simp [h0], rfl⟩
  by_cases he : w.toList = ([] : List UInt8)
  ·
   refine ⟨(⟨#[]⟩, 4), fun _ h => absurd ((empty_iff w).1 he) (by omega), ev_bnd (l01Is_ev w (by omega)) ?_, ?_⟩
   ·
    simp only [h0, if_true, he]; exact ev_of rfl
   ·
    simp only [hc, if_true, he]; exact ev_of rfl
  ·
   have hz : 0 < w.size := by
    rcases Nat.eq_zero_or_pos w.size with h | h
    ·
     exact absurd ((empty_iff w).2 h) he
    ·
     exact h
   have hp := cvs_pos w hz
   refine ⟨(rdOf ByteArray.empty (cvs w) 0, 0), fun _ _ => rfl, ev_bnd (l01Is_ev w (by omega)) ?_, ?_⟩
   ·
    simp only [h0, if_true, he, if_false]
    refine ev_bnd ⟨10101, fun k hk => spec_covers_f w hs k (by omega)⟩ ?_
    simp only [show 0 < ((cvs w).length : Int) by omega, if_true]; exact ev_of rfl
   ·
    simp only [hc, if_true, he, if_false]
    refine ev_bnd ⟨10101, fun k hk => impl_covers_f w h0 k (by omega)⟩ ?_
    simp only [show 0 < ((cvs w).length : Int) by omega, if_true]; exact ev_of rfl
 ·
  have hc : codeW true [w] = 1 := by simp [codeW, h0]
  refine ⟨(⟨#[]⟩, 1), fun h => absurd h h0, ev_bnd (l01Is_ev w (by omega)) ?_, ?_⟩
  ·
   simp only [h0, if_false]; exact ev_of rfl
  ·
   simp only [hc, show ¬ ((1 : Int) = 0) by omega, if_false]; exact ev_of rfl

/-- How long the least cover of a word's beginning is. -/
def lcv (w : ByteArray) (m : Nat) : Int := ((rdOf ByteArray.empty (cvs (w.extract 0 m)) 0).size : Int)
theorem cl_loop' (w : ByteArray) (hw : isW w = true) : ∀ (d m : Nat) (acc : List Int), m + d = w.size → acc.length = m → ∃ r : List Int, r.length = w.size ∧ (0 < d → r.getLast? = some (lcv w w.size)) ∧ (d = 0 → r = acc) ∧ (∀ k, 10200 + d < k → spec_CoverLengths.l0 k w acc ((m + 1 : Nat) : Int) = some (r, 0)) ∧ (∀ k, 10200 + d < k → impl_CoverLengths.l0 k w acc (w.size : Int) (m : Int) = some (r, 0)) := by
 have hs := isW_size hw
 intro d
 induction d with
 | zero =>
  intro m acc hd ha
  refine ⟨acc, by omega, fun h => by omega, fun _ => rfl, fun k hk => ?_, fun k hk => ?_⟩
  ·
   obtain ⟨k, rfl⟩ : ∃ n, k = n + 1 := ⟨k - 1, by omega⟩
   simp only [spec_CoverLengths.l0]; rw [if_neg (by omega)]
  ·
   obtain ⟨k, rfl⟩ : ∃ n, k = n + 1 := ⟨k - 1, by omega⟩
   simp only [impl_CoverLengths.l0]; rw [if_neg (by omega)]
 | succ d ih =>
  intro m acc hd ha
  have hz : (w.extract 0 (m + 1)).size = m + 1 := by rw [ByteArray.size_extract]; omega
  have hp := cvs_pos (w.extract 0 (m + 1)) (by omega)
  obtain ⟨r, hr, hg, h00, h1, h2⟩ := ih (m + 1) (acc ++ [((rdOf ByteArray.empty (cvs (w.extract 0 (m + 1))) 0).size : Int)]) (by omega) (by simp; omega)
  refine ⟨r, hr, fun _ => ?_, fun h => by omega, fun k hk => ?_, fun k hk => ?_⟩
  ·
   rcases Nat.eq_zero_or_pos d with e | e
   ·
    rw [h00 e]
    have : m + 1 = w.size := by omega
    rw [this]; simp [lcv]
   ·
    exact hg e
  ·
   obtain ⟨k, rfl⟩ : ∃ n, k = n + 1 := ⟨k - 1, by omega⟩
   simp only [spec_CoverLengths.l0]
   rw [if_pos (by omega), if_pos (by omega), Int.toNat_natCast, spec_covers_f _ (by omega) k (by omega)]
   simp only [Option.bind_some]
   rw [if_pos (by omega), if_pos (by omega), wrap_succ (i := m + 1) (by omega)]
   exact h1 k (by omega)
  ·
   obtain ⟨k, rfl⟩ : ∃ n, k = n + 1 := ⟨k - 1, by omega⟩
   simp only [impl_CoverLengths.l0]
   rw [if_pos (by omega), wrap_succ (i := m) (by omega), if_pos (by omega), if_pos (by omega), Int.toNat_natCast, impl_covers_f _ (isW_extract hw _ _) k (by omega)]
   simp only [Option.bind_some, impl_size.f]
   rw [if_pos (by omega), if_pos (by omega)]
   exact h2 k (by omega)
theorem coverLengths_ev (w : ByteArray) (hw : w.size ≤ 100000) : ∃ r : List Int × Int, r.1.length ≤ 1000 ∧ (isW w = true → 0 < w.size → r.1.length = w.size ∧ rd r.1 ((w.size - 1 : Nat) : Int) = ((rdOf ByteArray.empty (cvs w) 0).size : Int)) ∧ Ev (fun k => spec_CoverLengths.f k w) r ∧ Ev (fun k => impl_CoverLengths.f k w) r := by
 unfold spec_CoverLengths.f impl_CoverLengths.f impl_always.f
 simp only [wordCode_f, Option.bind_some]
 by_cases h0 : isW w = true
 ·
  have hs := isW_size h0
  have hc : codeW true [w] = 0 := codeW_zero.2 ⟨by simp [h0], rfl⟩
  obtain ⟨r, hr, hg, _, g1, g2⟩ := cl_loop' w h0 w.size 0 [] (by omega) (by simp)
  refine ⟨(r, 0), by show r.length ≤ _; omega, fun _ hz => ⟨hr, ?_⟩, ev_bnd (l01Is_ev w (by omega)) ?_, ?_⟩
  ·
   have h := hg hz
   rw [List.getLast?_eq_getElem?, hr, List.getElem?_eq_getElem (by omega)] at h
   have h2 := Option.some.inj h
   show rd r _ = _
   rw [rd_nat r (w.size - 1) (by omega), h2, lcv, extract_all]
  ·
   simp only [h0, if_true]; exact ⟨10300, fun k hk => g1 k (by omega)⟩
  ·
   simp only [hc, if_true]; exact ⟨10300, fun k hk => g2 k (by omega)⟩
 ·
  have hc : codeW true [w] = 1 := by simp [codeW, h0]
  refine ⟨([], 1), by simp, fun h => absurd h h0, ev_bnd (l01Is_ev w (by omega)) ?_, ?_⟩
  ·
   simp only [h0, if_false]; exact ev_of rfl
  ·
   simp only [hc, show ¬ ((1 : Int) = 0) by omega, if_false]; exact ev_of rfl

theorem super_ev (w : ByteArray) (hw : w.size ≤ 100000) : ∃ r : Bool × Int, (isW w = true → r = (((cvs w).length : Int) == 1, 0)) ∧ Ev (fun k => spec_IsSuperprimitive.f k w) r ∧ Ev (fun k => impl_IsSuperprimitive.f k w) r := by
 unfold spec_IsSuperprimitive.f impl_IsSuperprimitive.f impl_always.f
 simp only [wordCode_f, Option.bind_some]
 by_cases h0 : isW w = true
 ·
  have hs := isW_size h0
  have hc : codeW true [w] = 0 := codeW_zero.2 ⟨by simp [h0], rfl⟩
  refine ⟨(((cvs w).length : Int) == 1, 0), fun _ => rfl, ev_bnd (l01Is_ev w (by omega)) ?_, ?_⟩
  ·
   simp only [h0, if_true]
   exact ev_bnd ⟨10101, fun k hk => spec_covers_f w hs k (by omega)⟩ (ev_of rfl)
  ·
   simp only [hc, if_true]
   exact ev_bnd ⟨10101, fun k hk => impl_covers_f w h0 k (by omega)⟩ (ev_of rfl)
 ·
  have hc : codeW true [w] = 1 := by simp [codeW, h0]
  refine ⟨(false, 1), fun h => absurd h h0, ev_bnd (l01Is_ev w (by omega)) ?_, ?_⟩
  ·
   simp only [h0, if_false]; exact ev_of rfl
  ·
   simp only [hc, show ¬ ((1 : Int) = 0) by omega, if_false]; exact ev_of rfl

/-- The code of a word and a word that is to cover it. -/
def cod2 (w u : ByteArray) : Int := codeW (filled [u]) (w :: [u])
theorem cod2_zero {w u : ByteArray} (h : cod2 w u = 0) : isW w = true ∧ isW u = true ∧ 0 < u.size := by
 have hc0 := codeW_zero.1 h
 have hall0 := hc0.1
 rw [List.all_eq_true] at hall0
 refine ⟨hall0 w (by simp), hall0 u (by simp), ?_⟩
 rcases Nat.eq_zero_or_pos u.size with h | h
 ·
  exfalso
  have := (empty_iff u).2 h
  have hf := hc0.2
  simp [filled, this] at hf
 ·
  exact h
theorem cod2_of {w u : ByteArray} (h1 : isW w = true) (h2 : isW u = true) (h3 : 0 < u.size) : cod2 w u = 0 := by
 refine codeW_zero.2 ⟨by simp [h1, h2], ?_⟩
 have : ¬ u.toList = ([] : List UInt8) := fun e => by have := (empty_iff u).1 e; omega
 simp [filled, this]
theorem isCover_ev (w u : ByteArray) (hw : w.size ≤ 100000) (hu : u.size ≤ 100000) : Ev (fun k => spec_IsCover.f k w u) (if cod2 w u = 0 then (isC w u, 0) else (false, cod2 w u)) ∧ Ev (fun k => impl_IsCover.f k w u) (if cod2 w u = 0 then (isC w u, 0) else (false, cod2 w u)) := by
 unfold spec_IsCover.f impl_IsCover.f
 have hcode := l09Code_ev w [u] (by omega) (by simp) (fun v hv => by simp only [List.mem_cons, List.not_mem_nil, or_false] at hv; subst hv; omega)
 simp only [coverCode_f _ _ w [u] (by simp), Bool.true_and, Option.bind_some]
 by_cases h0 : cod2 w u = 0
 ·
  obtain ⟨hw1, hu1, hz⟩ := cod2_zero h0
  have hs := isW_size hw1
  have hu2 := isW_size hu1
  rw [if_pos h0]
  have h0' : codeW (filled [u]) (w :: [u]) = 0 := h0
  refine ⟨ev_bnd hcode ?_, ?_⟩
  ·
   simp only [h0', if_true]
   exact ev_bnd ⟨10001, fun k hk => l09Cover_f w u hs hu2 k (by omega)⟩ (ev_of rfl)
  ·
   simp only [h0', if_true]
   exact ev_bnd ⟨10001, fun k hk => isCovered_one w u hs hu1 k (by omega)⟩ (ev_of rfl)
 ·
  rw [if_neg h0]
  have h0' : ¬ codeW (filled [u]) (w :: [u]) = 0 := h0
  refine ⟨ev_bnd hcode ?_, ?_⟩
  ·
   simp only [h0', if_false]; exact ev_of rfl
  ·
   simp only [h0', if_false]; exact ev_of rfl

/-- The places that aren't covered. -/
def unc : List Bool → Nat → List Int
 | [], _ => []
 | b :: l, i => if b = true then unc l (i + 1) else (i : Int) :: unc l (i + 1)
theorem unc_length : ∀ l i, (unc l i).length ≤ l.length
 | [], _ => Nat.le_refl _
 | b :: l, i => by
  have := unc_length l (i + 1)
  unfold unc; split <;> simp only [List.length_cons] <;> omega
theorem unc_nil : ∀ l i, unc l i = [] ↔ allT l = true
 | [], i => by simp [unc, allT]
 | b :: l, i => by
  have ih := unc_nil l (i + 1)
  cases b with
  | true => rw [unc, if_pos rfl, ih]; simp [allT]
  | false => rw [unc, if_neg (by simp)]; simp [allT]
theorem un_loop' (l : List Bool) (hl : l.length ≤ 1000) : ∀ (d i : Nat) (acc : List Int), i + d = l.length → acc.length ≤ i → (∀ k, d < k → spec_UncoveredPlaces.l0 k l acc (i : Int) = some (acc ++ unc (l.drop i) i, 0)) ∧ (∀ k, d < k → impl_UncoveredPlaces.l0 k acc l (l.length : Int) (i : Int) = some (acc ++ unc (l.drop i) i, 0)) := by
 intro d
 induction d with
 | zero =>
  intro i acc hd ha
  rw [List.drop_eq_nil_of_le (by omega)]
  simp only [unc, List.append_nil]
  refine ⟨fun k hk => ?_, fun k hk => ?_⟩
  ·
   obtain ⟨k, rfl⟩ : ∃ n, k = n + 1 := ⟨k - 1, by omega⟩
   simp only [spec_UncoveredPlaces.l0]; rw [if_neg (by omega)]
  ·
   obtain ⟨k, rfl⟩ : ∃ n, k = n + 1 := ⟨k - 1, by omega⟩
   simp only [impl_UncoveredPlaces.l0]; rw [if_neg (by omega)]
 | succ d ih =>
  intro i acc hd ha
  have hi : i < l.length := by omega
  have er : rdOf false l (i : Int) = l[i] := rdOf_nat _ _ i hi
  rw [List.drop_eq_getElem_cons hi]
  by_cases c : l[i] = true
  ·
   obtain ⟨h1, h2⟩ := ih (i + 1) acc (by omega) (by omega)
   have e : unc (l[i] :: l.drop (i + 1)) i = unc (l.drop (i + 1)) (i + 1) := by rw [unc, if_pos c]
   rw [e]
   rw [← er] at c
   refine ⟨fun k hk => ?_, fun k hk => ?_⟩
   ·
    obtain ⟨k, rfl⟩ : ∃ n, k = n + 1 := ⟨k - 1, by omega⟩
    simp only [spec_UncoveredPlaces.l0]
    rw [if_pos (by omega), if_pos (by omega), if_pos c, wrap_succ (by omega)]; exact h1 k (by omega)
   ·
    obtain ⟨k, rfl⟩ : ∃ n, k = n + 1 := ⟨k - 1, by omega⟩
    simp only [impl_UncoveredPlaces.l0]
    rw [if_pos (by omega), if_pos (by omega), if_pos (by omega), if_pos c, wrap_succ (by omega)]; exact h2 k (by omega)
  ·
   obtain ⟨h1, h2⟩ := ih (i + 1) (acc ++ [(i : Int)]) (by omega) (by simp; omega)
   have e : unc (l[i] :: l.drop (i + 1)) i = (i : Int) :: unc (l.drop (i + 1)) (i + 1) := by rw [unc, if_neg c]
   rw [e]
   rw [List.append_assoc, List.singleton_append] at h1 h2
   rw [← er] at c
   refine ⟨fun k hk => ?_, fun k hk => ?_⟩
   ·
    obtain ⟨k, rfl⟩ : ∃ n, k = n + 1 := ⟨k - 1, by omega⟩
    simp only [spec_UncoveredPlaces.l0]
    rw [if_pos (by omega), if_pos (by omega), if_neg c, if_pos (by omega), wrap_succ (by omega)]; exact h1 k (by omega)
   ·
    obtain ⟨k, rfl⟩ : ∃ n, k = n + 1 := ⟨k - 1, by omega⟩
    simp only [impl_UncoveredPlaces.l0]
    rw [if_pos (by omega), if_pos (by omega), if_pos (by omega), if_neg c, if_pos (by omega), wrap_succ (by omega)]; exact h2 k (by omega)
theorem uncov_ev (w u : ByteArray) (hw : w.size ≤ 100000) (hu : u.size ≤ 100000) : Ev (fun k => spec_UncoveredPlaces.f k w u) (if cod2 w u = 0 then (unc (cov w u) 0, 0) else ([], cod2 w u)) ∧ Ev (fun k => impl_UncoveredPlaces.f k w u) (if cod2 w u = 0 then (unc (cov w u) 0, 0) else ([], cod2 w u)) := by
 unfold spec_UncoveredPlaces.f impl_UncoveredPlaces.f
 have hcode := l09Code_ev w [u] (by omega) (by simp) (fun v hv => by simp only [List.mem_cons, List.not_mem_nil, or_false] at hv; subst hv; omega)
 simp only [coverCode_f _ _ w [u] (by simp), Bool.true_and, Option.bind_some]
 by_cases h0 : cod2 w u = 0
 ·
  obtain ⟨hw1, hu1, hz⟩ := cod2_zero h0
  have hs := isW_size hw1
  have hu2 := isW_size hu1
  rw [if_pos h0]
  have h0' : codeW (filled [u]) (w :: [u]) = 0 := h0
  have hcl := cov_length w u
  obtain ⟨g1, g2⟩ := un_loop' (cov w u) (by omega) (cov w u).length 0 [] (by omega) (by simp)
  rw [List.nil_append, List.drop_zero] at g1 g2
  refine ⟨ev_bnd hcode ?_, ?_⟩
  ·
   simp only [h0', if_true]
   exact ev_bnd ⟨10001, fun k hk => spec_places9 w u hs hu2 k (by omega)⟩ ⟨100, fun k hk => g1 k (by omega)⟩
  ·
   simp only [h0', if_true]
   exact ev_bnd ⟨10001, fun k hk => covered_one w u hs hu1 k (by omega)⟩ ⟨100, fun k hk => g2 k (by omega)⟩
 ·
  rw [if_neg h0]
  have h0' : ¬ codeW (filled [u]) (w :: [u]) = 0 := h0
  refine ⟨ev_bnd hcode ?_, ?_⟩
  ·
   simp only [h0', if_false]; exact ev_of rfl
  ·
   simp only [h0', if_false]; exact ev_of rfl

theorem isSeed_ev {w u : ByteArray} (h0 : cod2 w u = 0) (hle : u.size ≤ w.size) : Ev (fun k => impl_IsSeed.f k w u) (isSd w u, 0) := by
 obtain ⟨hw1, hu1, hz⟩ := cod2_zero h0
 have hs := isW_size hw1
 unfold impl_IsSeed.f
 have hc0 := codeW_zero.1 h0
 have hc2 : codeW (decide ((u.size : Int) ≤ (w.size : Int)) && filled [u]) (w :: [u]) = 0 := codeW_zero.2 ⟨hc0.1, by rw [hc0.2, decide_eq_true (by omega)]; rfl⟩
 simp only [coverCode_f _ _ w [u] (by simp), Option.bind_some, hc2, if_true]
 exact ev_bnd ⟨20001, fun k hk => isSeed_f w u hle hs hu1 hz k (by omega)⟩ (ev_of rfl)

/-! ### borders -/
theorem bmap_loop (a : ByteArray) (ha : a.size ≤ 1000) : ∀ (rest pre : List Int) (k : Nat), pre.length + rest.length ≤ 1000 → (∀ x ∈ rest, 0 ≤ x ∧ x ≤ 1000) → rest.length < k →
  impl_BordersOf.l0 k a ((pre.length + rest.length : Nat) : Int) (pre ++ rest) (pre.length : Int) = some (pre ++ rest.map fun x => (a.size : Int) - x) := by
 intro rest
 induction rest with
 | nil =>
  intro pre k h1 h2 hk
  obtain ⟨k, rfl⟩ : ∃ m, k = m + 1 := ⟨k - 1, by omega⟩
  rw [impl_BordersOf.l0, if_neg (by simp)]; simp
 | cons x rest ih =>
  intro pre k h1 h2 hk
  simp only [List.length_cons] at h1 hk
  obtain ⟨k, rfl⟩ : ∃ m, k = m + 1 := ⟨k - 1, by omega⟩
  obtain ⟨x1, x2⟩ := h2 x (by simp)
  have hlen : (pre ++ x :: rest).length = pre.length + rest.length + 1 := by simp; omega
  have hr : rdOf 0 (pre ++ x :: rest) (pre.length : Int) = x := by rw [rdOf_nat _ _ _ (by omega)]; simp
  have he : (pre ++ x :: rest).set pre.length ((a.size : Int) - x) = (pre ++ [(a.size : Int) - x]) ++ rest := by simp
  rw [impl_BordersOf.l0, if_pos (by simp only [List.length_cons]; omega), if_pos (by omega), hr, wrap_id (by omega) (by omega), Int.toNat_natCast, he, wrap_succ (by omega)]
  have := ih (pre ++ [(a.size : Int) - x]) k (by simp; omega) (fun y hy => h2 y (by simp [hy])) (by omega)
  simp only [List.length_append, List.length_singleton] at this
  simp only [List.length_cons]
  rw [show pre.length + 1 + rest.length = pre.length + (rest.length + 1) by omega] at this
  rw [this]
  simp
theorem rev_loop : ∀ (d : Nat) (l : List Int) (i k : Nat), l.length ≤ 1000 → l.length ≤ 2 * i + d + 1 → d < k → ∃ r, (∀ q, d + k ≤ q → slices_Reverse_int64_int64.l0 q l (i : Int) ((l.length : Int) - 1 - i) = some r) ∧ r.length = l.length ∧ ∀ x ∈ l, x ∈ r := by
 intro d
 induction d with
 | zero =>
  intro l i k hl hd hk
  refine ⟨l, fun q hq => ?_, rfl, fun x hx => hx⟩
  obtain ⟨q, rfl⟩ : ∃ m, q = m + 1 := ⟨q - 1, by omega⟩
  rw [slices_Reverse_int64_int64.l0, if_neg (by omega)]
 | succ d ih =>
  intro l i k hl hd hk
  by_cases h : (i : Int) < (l.length : Int) - 1 - i
  ·
   obtain ⟨j, hj⟩ : ∃ j : Nat, (l.length : Int) - 1 - i = j := ⟨((l.length : Int) - 1 - i).toNat, by omega⟩
   have hjl : j < l.length := by omega
   have hil : i < l.length := by omega
   obtain ⟨r, g1, g2, g3⟩ := ih ((l.set i l[j]).set j l[i]) (i + 1) k (by simp; omega) (by simp; omega) (by omega)
   rw [List.length_set, List.length_set] at g1 g2
   refine ⟨r, fun q hq => ?_, g2, fun x hx => g3 x ?_⟩
   ·
    obtain ⟨q, rfl⟩ : ∃ m, q = m + 1 := ⟨q - 1, by omega⟩
    have := g1 q (by omega)
    rw [hj] at h ⊢
    rw [slices_Reverse_int64_int64.l0, if_pos h, if_pos (by omega), if_pos (by omega), if_pos (by omega), if_pos (by omega), rd_nat l j hjl, rd_nat l i hil, Int.toNat_natCast, Int.toNat_natCast, wrap_succ (by omega), wrap_id (by omega) (by omega)]
    rw [← this]; congr 1; omega
   ·
    obtain ⟨t, ht, rfl⟩ := List.getElem_of_mem hx
    rw [List.mem_iff_getElem]
    by_cases e1 : t = i
    ·
     subst e1
     exact ⟨j, by simp; omega, by simp⟩
    ·
     by_cases e2 : t = j
     ·
      subst e2
      refine ⟨i, by simp; omega, ?_⟩
      rw [List.getElem_set_ne (by omega), List.getElem_set_self]
     ·
      refine ⟨t, by simp; omega, ?_⟩
      rw [List.getElem_set_ne (by omega), List.getElem_set_ne (by omega)]
  ·
   refine ⟨l, fun q hq => ?_, rfl, fun x hx => hx⟩
   obtain ⟨q, rfl⟩ : ∃ m, q = m + 1 := ⟨q - 1, by omega⟩
   rw [slices_Reverse_int64_int64.l0, if_neg h]
theorem prs_rng (a : ByteArray) : ∀ d i, ∀ x ∈ prs a d i, (i : Int) ≤ x ∧ x < (i : Int) + d
 | 0, _, x, h => by cases h
 | d + 1, i, x, h => by
  have ih := prs_rng a d (i + 1) x
  unfold prs at h
  split at h
  ·
   rcases List.mem_cons.1 h with rfl | h
   ·
    omega
   ·
    have := ih h; omega
  ·
   have := ih h; omega
theorem borders_ev {w : ByteArray} (h : isW w = true) : ∃ r : List Int, Ev (fun k => impl_BordersOf.f k w) (r, 0) ∧ r.length ≤ 1000 ∧ ∀ p, perB w p = true → 1 ≤ p → p ≤ w.size → ((w.size : Int) - (p : Int)) ∈ r := by
 have hs := isW_size h
 have hl := prs_length w w.size 1
 have hb := bmap_loop w (by omega) (prsOf w) [] 
 obtain ⟨r, g1, g2, g3⟩ := rev_loop 1000 ((prsOf w).map fun x => (w.size : Int) - x) 0 1001 (by rw [List.length_map]; unfold prsOf; omega) (by rw [List.length_map]; unfold prsOf; omega) (by omega)
 rw [List.length_map] at g1 g2
 refine ⟨r, ?_, by rw [g2]; unfold prsOf; omega, fun p h1 h2 h3 => g3 _ (List.mem_map.2 ⟨(p : Int), mem_prs w p h1 _ _ h2 (by omega), rfl⟩)⟩
 unfold impl_BordersOf.f
 refine ev_bnd (iPeriodsOf_ev h) ?_
 simp only [if_true]
 refine ev_bnd (a := (prsOf w).map fun x => (w.size : Int) - x) ⟨1000, fun k hk => ?_⟩ (ev_bnd (a := r) ⟨3000, fun k hk => ?_⟩ (ev_of rfl))
 ·
  have := hb k (by simp only [List.length_nil]; unfold prsOf; omega) (fun x hx => by have := prs_rng w _ _ x hx; omega) (by unfold prsOf; omega)
  simpa using this
 ·
  unfold slices_Reverse_int64_int64.f
  rw [List.length_map, wrap_id (by unfold prsOf; omega) (by unfold prsOf; omega)]
  have := g1 k (by omega)
  simpa using this

/-! ### words alike -/
theorem words5_loop (l : List ByteArray) (hl : l.length ≤ 4000000000000) : ∀ (d k i : Nat), i + d = l.length → d < k → laws_words5.l0 k l l (i : Int) = some true := by
 intro d
 induction d with
 | zero =>
  intro k i hd hk
  obtain ⟨k, rfl⟩ : ∃ m, k = m + 1 := ⟨k - 1, by omega⟩
  simp only [laws_words5.l0]; rw [if_neg (by omega)]
 | succ d ih =>
  intro k i hd hk
  obtain ⟨k, rfl⟩ : ∃ m, k = m + 1 := ⟨k - 1, by omega⟩
  simp only [laws_words5.l0]
  rw [if_pos (by omega), if_pos (by omega), if_pos (by omega), if_pos trivial, wrap_succ (by omega), ih k (i + 1) (by omega) (by omega)]
theorem words5_ev (l : List ByteArray) (hl : l.length ≤ 4000000000000) : Ev (fun k => laws_words5.f k l l) true :=
 ⟨l.length + 1, fun k hk => by
  have h := words5_loop l hl l.length k 0 (by omega) (by omega)
  simp only [laws_words5.f, if_true]; exact h⟩

end Go.Proofs.Ytoadancbpgignaa.PF
