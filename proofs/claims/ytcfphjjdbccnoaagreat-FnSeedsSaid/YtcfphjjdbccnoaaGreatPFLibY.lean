/- Covered places: the program's list and the reference's list, and the tests of them. -/
import Derived.Test.YtcfphjjdbccnoaaGreatPFLibPl
import Derived.Test.YtcfphjjdbccnoaaGreatPFLibW
import Derived.Test.YtcfphjjdbccnoaaGreatPFGivE
import Derived.Test.YtcfphjjdbccnoaaGreatPFx2
import Derived.Test.YtcfphjjdbccnoaaGreatPFx1
namespace Go.Proofs.YtcfphjjdbccnoaaGreat.PF
open Go.RowKit Go.Proofs.YtcfphjjdbccnoaaGreatW.PrintWords Go.Proofs.YtcfphjjdbccnoaaGreatW.PrintLast Go.Proofs.YtcfphjjdbccnoaaGreatW.PrintMore
set_option linter.unusedVariables false
set_option linter.unusedSimpArgs false

/-- d places from i on are marked. -/
def setR : Nat → Nat → List Bool → List Bool
 | 0, _, out => out
 | d + 1, i, out => setR d (i + 1) (out.set i true)
theorem setR_length : ∀ d i out, (setR d i out).length = out.length
 | 0, _, _ => rfl
 | d + 1, i, out => by rw [setR, setR_length d, List.length_set]
theorem setR_get : ∀ (d i : Nat) (out : List Bool) (j : Nat), (setR d i out).getD j false = (out.getD j false || decide (i ≤ j ∧ j < i + d ∧ j < out.length))
 | 0, i, out, j => by rw [setR, decide_eq_false (by omega)]; simp
 | d + 1, i, out, j => by
  rw [setR, setR_get d (i + 1) _ j, List.length_set, List.getD_eq_getElem?_getD, List.getD_eq_getElem?_getD, List.getElem?_set]
  by_cases e : i = j
  ·
   subst e
   by_cases h : i < out.length
   ·
    rw [decide_eq_true (show i ≤ i ∧ i < i + (d + 1) ∧ i < out.length by omega)]; simp [h]
   ·
    rw [decide_eq_false (show ¬ (i ≤ i ∧ i < i + (d + 1) ∧ i < out.length) by omega), decide_eq_false (show ¬ (i + 1 ≤ i ∧ i < i + 1 + d ∧ i < out.length) by omega)]; simp [h]
  ·
   rw [if_neg e]
   congr 1
   rw [decide_eq_decide]; omega

def setAll (n : Nat) : List Int → List Bool → List Bool
 | [], out => out
 | p :: ps, out => setAll n ps (setR n p.toNat out)
theorem setAll_length (n : Nat) : ∀ ps out, (setAll n ps out).length = out.length
 | [], _ => rfl
 | p :: ps, out => by rw [setAll, setAll_length n ps, setR_length]
theorem setAll_get (n : Nat) : ∀ (ps : List Int) (out : List Bool) (j : Nat), (setAll n ps out).getD j false = (out.getD j false || ps.any fun p => decide (p.toNat ≤ j ∧ j < p.toNat + n ∧ j < out.length))
 | [], out, j => by simp [setAll]
 | p :: ps, out, j => by rw [setAll, setAll_get n ps, setR_get, setR_length, List.any_cons, Bool.or_assoc]

/-- What a word covers, beside what is covered. -/
def covP (w u : ByteArray) (out : List Bool) : List Bool := setAll u.size (places w u) out
def cov (w u : ByteArray) : List Bool := covP w u (List.replicate w.size false)
theorem covP_length (w u : ByteArray) (out : List Bool) : (covP w u out).length = out.length := setAll_length _ _ _
theorem cov_length (w u : ByteArray) : (cov w u).length = w.size := by rw [cov, covP_length, List.length_replicate]

theorem places_mem {w u : ByteArray} {x : Int} (h : x ∈ places w u) : ∃ j : Nat, x = j ∧ j + u.size ≤ w.size ∧ w.extract j (j + u.size) = u := by
 obtain ⟨j, h1, _, h2, h3⟩ := plcs_mem w u x _ _ h
 exact ⟨j, h1, h2, h3⟩

/-! ### the program's list -/
theorem markAt_eq (p : Nat) : ∀ (d k : Nat) (out : List Bool), p + k + d ≤ out.length → out.length ≤ 4000000000000 → markAt (p : Int) d k out = some (setR d (p + k) out)
 | 0, k, out, _, _ => rfl
 | d + 1, k, out, h, hl => by
  rw [markAt, wrap_nat (n := p + k) (by omega) (by omega), if_pos (by omega), Int.toNat_natCast, markAt_eq p d (k + 1) _ (by rw [List.length_set]; omega) (by rw [List.length_set]; omega)]
  rfl
theorem markAll_eq (n : Nat) : ∀ (ps : List Int) (out : List Bool), (∀ x ∈ ps, ∃ j : Nat, x = j ∧ j + n ≤ out.length) → out.length ≤ 4000000000000 → markAll n ps out = some (setAll n ps out)
 | [], out, _, _ => rfl
 | p :: ps, out, h, hl => by
  obtain ⟨j, rfl, hj⟩ := h p (by simp)
  rw [markAll, markAt_eq j n 0 out (by omega) hl]
  show markAll n ps (setR n j out) = _
  rw [markAll_eq n ps _ (fun x hx => by rw [setR_length]; exact h x (by simp [hx])) (by rw [setR_length]; exact hl)]
  rfl
def covL (w : ByteArray) : List ByteArray → List Bool → List Bool
 | [], out => out
 | u :: us, out => covL w us (covP w u out)
theorem covAll_eq (w : ByteArray) (hw : w.size ≤ 60) (k : Nat) (hk : 100 < k) : ∀ (l : List ByteArray) (out : List Bool), (∀ u ∈ l, isW u = true) → out.length = w.size → covAll k w l out = some (covL w l out)
 | [], out, _, _ => rfl
 | u :: us, out, h, hl => by
  have hu := h u (by simp)
  have hs := isW_size hu
  have hp : impl_places.f k w u = some (places w u) := by
   have h := impl_places_loop w u hw hs (w.size + 1) k 0 [] (by omega) (by simp) (by omega)
   unfold impl_places.f
   rw [wrap_id (by omega) (by omega)]
   exact h
  rw [covAll, if_pos hu, hp]
  simp only [Option.bind_some]
  rw [markAll_eq u.size _ _ (fun x hx => by obtain ⟨j, h1, h2, _⟩ := places_mem hx; exact ⟨j, h1, by omega⟩) (by omega)]
  show covAll k w us (covP w u out) = _
  rw [covAll_eq w hw k hk us _ (fun v hv => h v (by simp [hv])) (by rw [covP_length]; exact hl)]
  rfl
theorem covered_f (w : ByteArray) (hw : w.size ≤ 60) (k : Nat) (hk : 100 < k) (l : List ByteArray) (h : ∀ u ∈ l, isW u = true) : impl_covered.f k w l = some (covL w l (List.replicate w.size false)) := by
 unfold impl_covered.f
 rw [if_pos (by omega), covAll_eq w hw k hk l _ h List.length_replicate]
theorem covered_one (w u : ByteArray) (hw : w.size ≤ 60) (hu : isW u = true) (k : Nat) (hk : 100 < k) : impl_covered.f k w [u] = some (cov w u) :=
 covered_f w hw k hk [u] (by simpa using hu)

/-! ### the reference's list -/
theorem spec_l1 (u : ByteArray) (ps : List Int) (hu : u.size ≤ 60) (hps : ps.length ≤ 100) (i j : Nat) (hi : i < ps.length) (hj : rd ps (i : Int) = (j : Int)) : ∀ (d k t : Nat) (out : List Bool), t + d = u.size → j + u.size ≤ out.length → out.length ≤ 100 →
  spec_l09Places.l1 (k + d + 1) u out ps (i : Int) (t : Int) = spec_l09Places.l0 k u (setR d (j + t) out) ps ((i + 1 : Nat) : Int) := by
 intro d
 induction d with
 | zero =>
  intro k t out hd hl hl2
  simp only [spec_l09Places.l1]
  rw [if_neg (by omega), wrap_succ (by omega)]; rfl
 | succ d ih =>
  intro k t out hd hl hl2
  obtain ⟨q, hq⟩ : ∃ q, q = k + d + 1 := ⟨_, rfl⟩
  rw [show k + (d + 1) + 1 = q + 1 by omega]
  simp only [spec_l09Places.l1, hj]
  rw [wrap_nat (n := j + t) (by omega) (by omega), if_pos (by omega), if_pos (by omega), if_pos (by omega), if_pos (by omega), if_pos (by omega), wrap_succ (i := t) (by omega), Int.toNat_natCast]
  subst hq
  rw [ih k (t + 1) _ (by omega) (by rw [List.length_set]; omega) (by rw [List.length_set]; omega)]
  rfl
theorem spec_l0 (u : ByteArray) (ps : List Int) (hu : u.size ≤ 60) (hps : ps.length ≤ 100) : ∀ (d k i : Nat) (out : List Bool), i + d = ps.length → (∀ x ∈ ps, ∃ j : Nat, x = j ∧ j + u.size ≤ out.length) → out.length ≤ 100 → d * 100 + 1 < k →
  spec_l09Places.l0 k u out ps (i : Int) = some (setAll u.size (ps.drop i) out) := by
 intro d
 induction d with
 | zero =>
  intro k i out hd h hl hk
  obtain ⟨k, rfl⟩ : ∃ n, k = n + 1 := ⟨k - 1, by omega⟩
  simp only [spec_l09Places.l0]
  rw [if_neg (by omega), List.drop_eq_nil_of_le (by omega)]; rfl
 | succ d ih =>
  intro k i out hd h hl hk
  obtain ⟨k, rfl⟩ : ∃ n, k = n + u.size + 1 + 1 := ⟨k - u.size - 2, by omega⟩
  obtain ⟨j, hj1, hj2⟩ := h ps[i] (List.getElem_mem _)
  simp only [spec_l09Places.l0]
  have h1 := spec_l1 u ps hu hps i j (by omega) (by rw [rd_nat _ _ (by omega)]; exact hj1) u.size k 0 out (by omega) hj2 hl
  rw [if_pos (by omega), show (0 : Int) = ((0 : Nat) : Int) from rfl, h1, ih k (i + 1) _ (by omega) (fun x hx => by rw [setR_length]; exact h x hx) (by rw [setR_length]; exact hl) (by omega), List.drop_eq_getElem_cons (l := ps) (i := i) (by omega), hj1]
  rfl
theorem spec_places9 (w u : ByteArray) (hw : w.size ≤ 60) (hu : u.size ≤ 60) (k : Nat) (hk : 10000 < k) : spec_l09Places.f k w u = some (cov w u) := by
 have hp : spec_l01Places.f k w u = some (places w u) := by
  have h := spec_places_loop w u hw hu (w.size + 1) k 0 [] (by omega) (by simp) (by omega)
  exact h
 have hl := places_length w u
 unfold spec_l09Places.f
 rw [if_pos (by omega), if_pos (by omega), hp, Int.toNat_natCast]
 simp only [Option.bind_some]
 rw [show (0 : Int) = ((0 : Nat) : Int) from rfl, spec_l0 u (places w u) hu (by omega) (places w u).length k 0 _ (by omega) (fun x hx => by obtain ⟨j, h1, h2, _⟩ := places_mem hx; exact ⟨j, h1, by rw [List.length_replicate]; omega⟩) (by rw [List.length_replicate]; omega) (by omega)]
 rfl

/-! ### tests of such lists -/
/-- Is all marked? -/
def allT (l : List Bool) : Bool := l.all id
theorem count_loop (l : List Bool) (hl : l.length ≤ 1000000) : ∀ (d k i : Nat) (s : Nat), i + d = l.length → s ≤ i → d < k → spec_l09Count.l0 k l (s : Int) (i : Int) = some ((s + (l.drop i).countP id : Nat) : Int) := by
 intro d
 induction d with
 | zero =>
  intro k i s hd hs hk
  obtain ⟨k, rfl⟩ : ∃ n, k = n + 1 := ⟨k - 1, by omega⟩
  simp only [spec_l09Count.l0]
  rw [if_neg (by omega), List.drop_eq_nil_of_le (by omega)]; rfl
 | succ d ih =>
  intro k i s hd hs hk
  obtain ⟨k, rfl⟩ : ∃ n, k = n + 1 := ⟨k - 1, by omega⟩
  simp only [spec_l09Count.l0]
  rw [if_pos (by omega), if_pos (by omega), rdOf_nat _ _ _ (by omega), wrap_succ (i := s) (by omega), wrap_succ (i := i) (by omega), List.drop_eq_getElem_cons (l := l) (i := i) (by omega), List.countP_cons]
  by_cases c : l[i] = true
  ·
   rw [if_pos c, ih k (i + 1) (s + 1) (by omega) (by omega) (by omega)]; simp [c]; omega
  ·
   rw [if_neg c, ih k (i + 1) s (by omega) (by omega) (by omega)]; simp [c]
theorem count_f (l : List Bool) (hl : l.length ≤ 1000000) (k : Nat) (hk : l.length < k) : spec_l09Count.f k l = some ((l.countP id : Nat) : Int) := by
 have h := count_loop l hl l.length k 0 0 (by omega) (by omega) (by omega)
 rw [List.drop_zero, Nat.zero_add] at h
 exact h
theorem count_all (l : List Bool) : (((l.countP id : Nat) : Int) == (l.length : Int)) = allT l := by
 have h : l.countP id = l.length ↔ allT l = true := by
  rw [allT, List.countP_eq_length, List.all_eq_true]
 by_cases c : allT l = true
 ·
  rw [c, h.2 c]; simp
 ·
  rw [Bool.not_eq_true] at c
  have : ¬ l.countP id = l.length := fun e => by rw [h.1 e] at c; cases c
  rw [c, beq_eq_false_iff_ne]; omega

theorem indexB_loop (l : List Bool) (hl : l.length ≤ 1000000) : ∀ (d k i : Nat), i + d = l.length → d < k → ∃ r, slices_Index_bool_bool.l0 k l false (l.length : Int) (i : Int) = some r ∧ (r ≥ 0 ↔ allT (l.drop i) = false) := by
 intro d
 induction d with
 | zero =>
  intro k i hd hk
  obtain ⟨k, rfl⟩ : ∃ n, k = n + 1 := ⟨k - 1, by omega⟩
  refine ⟨-1, ?_, ?_⟩
  ·
   simp only [slices_Index_bool_bool.l0]; rw [if_neg (by omega)]
  ·
   rw [List.drop_eq_nil_of_le (by omega)]; simp [allT]
 | succ d ih =>
  intro k i hd hk
  obtain ⟨k, rfl⟩ : ∃ n, k = n + 1 := ⟨k - 1, by omega⟩
  have hdr := List.drop_eq_getElem_cons (l := l) (i := i) (by omega)
  cases c : l[i] with
  | false =>
   refine ⟨i, ?_, ?_⟩
   ·
    simp only [slices_Index_bool_bool.l0]
    rw [if_pos (by omega), if_pos (by omega), if_pos (by omega), rdOf_nat _ _ _ (by omega), c, if_pos (by rfl)]
   ·
    rw [hdr, c]; simp [allT]
  | true =>
   obtain ⟨r, h1, h2⟩ := ih k (i + 1) (by omega) (by omega)
   refine ⟨r, ?_, ?_⟩
   ·
    simp only [slices_Index_bool_bool.l0]
    rw [if_pos (by omega), if_pos (by omega), if_pos (by omega), rdOf_nat _ _ _ (by omega), c, if_neg (by decide), wrap_succ (by omega), h1]
   ·
    rw [h2, hdr, c]; simp [allT]
theorem containsB_f (l : List Bool) (hl : l.length ≤ 1000000) (k : Nat) (hk : l.length < k) : slices_Contains_bool_bool.f k l false = some (!allT l) := by
 obtain ⟨r, h1, h2⟩ := indexB_loop l hl l.length k 0 (by omega) (by omega)
 unfold slices_Contains_bool_bool.f slices_Index_bool_bool.f
 rw [show (0 : Int) = ((0 : Nat) : Int) from rfl, h1]
 simp only [Option.bind_some, Option.some.injEq]
 rw [List.drop_zero] at h2
 cases c : allT l with
 | false => exact decide_eq_true (h2.2 c)
 | true => exact decide_eq_false (fun h => by rw [h2.1 h] at c; cases c)

/-- Is the word covered? -/
def isC (w u : ByteArray) : Bool := allT (cov w u)

end Go.Proofs.YtcfphjjdbccnoaaGreat.PF
