/- The law Palindromes answers true for all codes: palindromes, their numbers, the defect and the ends are as it says. -/
import Derived.Test.YtfihfeffbhohjaaPFLibDr
import Derived.Test.YtfihfeffbhohjaaPFLibW
import Derived.Test.YtfihfeffbhohjaaPFx3
import Derived.Test.YtfihfeffbhohjaaPFx9
import Derived.Test.YtfihfeffbhohjaaPFx8
namespace Go.Proofs.Ytfihfeffbhohjaa.Pure
open Go.RowKit Go.Proofs.Ytfihfeffbhohjaa.PF Go.Proofs.YtfihfeffbhohjaaW.PrintWords Go.Proofs.YtfihfeffbhohjaaW.PrintLast
set_option linter.unusedSimpArgs false
set_option linter.unusedVariables false
set_option maxRecDepth 20000

theorem like_loop (l : List Int) (hl : l.length ≤ 4000000000000) : ∀ (d k i : Nat), i + d = l.length → d < k → laws_likeInts.l0 k l l (i : Int) = some true := by
 intro d
 induction d with
 | zero =>
  intro k i hd hk
  obtain ⟨k, rfl⟩ : ∃ m, k = m + 1 := ⟨k - 1, by omega⟩
  simp only [laws_likeInts.l0]; rw [if_neg (by omega)]
 | succ d ih =>
  intro k i hd hk
  obtain ⟨k, rfl⟩ : ∃ m, k = m + 1 := ⟨k - 1, by omega⟩
  simp only [laws_likeInts.l0]
  rw [if_pos (by omega), if_pos (by omega), if_pos (by omega), if_pos trivial, wrap_succ (by omega), ih k (i + 1) (by omega) (by omega)]
theorem like_ev (l : List Int) (hl : l.length ≤ 4000000000000) : Ev (fun k => laws_likeInts.f k l l) true :=
 ⟨l.length + 1, fun k hk => by
  have h := like_loop l hl l.length k 0 (by omega) (by omega)
  simp only [laws_likeInts.f, if_true]; exact h⟩
theorem words9_loop (l : List ByteArray) (hl : l.length ≤ 4000000000000) : ∀ (d k i : Nat), i + d = l.length → d < k → laws_words9.l0 k l l (i : Int) = some true := by
 intro d
 induction d with
 | zero =>
  intro k i hd hk
  obtain ⟨k, rfl⟩ : ∃ m, k = m + 1 := ⟨k - 1, by omega⟩
  simp only [laws_words9.l0]; rw [if_neg (by omega)]
 | succ d ih =>
  intro k i hd hk
  obtain ⟨k, rfl⟩ : ∃ m, k = m + 1 := ⟨k - 1, by omega⟩
  simp only [laws_words9.l0]
  rw [if_pos (by omega), if_pos (by omega), if_pos (by omega), if_pos trivial, wrap_succ (by omega), ih k (i + 1) (by omega) (by omega)]
theorem words9_ev (l : List ByteArray) (hl : l.length ≤ 4000000000000) : Ev (fun k => laws_words9.f k l l) true :=
 ⟨l.length + 1, fun k hk => by
  have h := words9_loop l hl l.length k 0 (by omega) (by omega)
  simp only [laws_words9.f, if_true]; exact h⟩
theorem bytes_extract (w : ByteArray) (i j : Nat) : bytesOf (w.extract i j) = ((bytesOf w).take j).drop i := by
 simp [bytesOf, ByteArray.data_extract, List.map_drop, List.map_take, List.drop_take]
theorem isW_extract {w : ByteArray} (h : isW w = true) (i j : Nat) : isW (w.extract i j) = true := by
 simp only [isW, Bool.and_eq_true, decide_eq_true_eq, List.all_eq_true] at h ⊢
 refine ⟨by rw [ByteArray.size_extract]; omega, fun x hx => h.2 x ?_⟩
 rw [bytes_extract] at hx
 exact List.mem_of_mem_take (List.mem_of_mem_drop hx)
theorem placesOf_ev {w v : ByteArray} (h1 : isW w = true) (h2 : isW v = true) : Ev (fun k => impl_PlacesOf.f k w v) (places w v, 0) := by
 have hc : codeW true [w, v] = 0 := codeW_zero.2 ⟨by simp [h1, h2], rfl⟩
 unfold impl_PlacesOf.f impl_always.f
 simp only [wordCode_f, Option.bind_some, hc, if_true]
 exact ev_bnd (impl_places_ev w v (isW_size h1) (isW_size h2)) (ev_of rfl)

theorem plcs_has' (w v : ByteArray) : ∀ (d i j : Nat), i ≤ j → j < i + d → j + v.size ≤ w.size → w.extract j (j + v.size) = v → (j : Int) ∈ plcs w v d i
 | 0, i, j, h1, h2, _, _ => by omega
 | d + 1, i, j, h1, h2, h3, h4 => by
  rw [plcs]
  by_cases e : j = i
  ·
   subst e; rw [if_pos ⟨h3, h4⟩]; simp
  ·
   have := plcs_has' w v d (i + 1) j (by omega) (by omega) h3 h4
   split
   ·
    simp [this]
   ·
    exact this
theorem l1_ev {w x : ByteArray} (hw : isW w = true) (c4 mo : Int) (hfin : ¬ w.toList = ([] : List UInt8) → c4 = 0 ∧ (x.size : Int) = mo) : ∀ (d i : Nat), i + d = (palAll w).length →
  Ev (fun k => laws_FnPalindromes.l1 k w (palAll w) x c4 mo (i : Int)) true := by
 have hs := isW_size hw
 have hl := palAll_le w
 have hend : ∀ i : Int, Ev (fun k => laws_FnPalindromes.j9 k w (palAll w) x c4 mo i false) true := fun i => by
  refine ev_suc ?_
  simp only [laws_FnPalindromes.j9, Bool.false_eq_true, if_false]
  by_cases he : w.toList = ([] : List UInt8)
  ·
   simp only [he, if_true]; exact ev_of rfl
  ·
   obtain ⟨g1, g2⟩ := hfin he
   simp only [he, if_false, g1, if_true, g2]
   exact ev_of (by simp)
 intro d
 induction d with
 | zero =>
  intro i hi
  refine ev_suc ?_
  simp only [laws_FnPalindromes.l1, show ¬ ((i : Int) < ((palAll w).length : Int)) by omega, if_false]
  exact hend _
 | succ d ih =>
  intro i hi
  have hil : i < (palAll w).length := by omega
  refine ev_suc ?_
  simp only [laws_FnPalindromes.l1, show ((i : Int) < ((palAll w).length : Int)) by omega, if_true]
  by_cases g : (i : Int) < 12
  ·
   obtain ⟨u1, u2, j, u3, u4⟩ := (mem_palAll w _).1 (List.getElem_mem hil)
   have er : rdOf ByteArray.empty (palAll w) (i : Int) = (palAll w)[i] := rdOf_nat _ _ i hil
   have hnext := ih (i + 1) (by omega)
   generalize (palAll w)[i] = u at u1 u2 u3 u4 er
   have hu : isW u = true := by rw [u4]; exact isW_extract hw _ _
   have a1 := (isPal_ev u (by omega)).2
   rw [if_pos hu, u2] at a1
   have a2 := placesOf_ev hw hu
   have hpl : 0 < (places w u).length := List.length_pos_of_mem (plcs_has' w u (w.size + 1) 0 j (by omega) (by omega) u3 u4.symm)
   rw [decide_eq_true g]
   refine ev_suc ?_
   simp only [laws_FnPalindromes.j9, if_true, show (0 : Int) ≤ (i : Int) by omega, show ((i : Int) < ((palAll w).length : Int)) by omega, er]
   refine ev_bnd a1 (ev_bnd a2 ?_)
   simp only [if_true, show ¬ (((places w u).length : Int) = 0) by omega, if_false, wrap_succ (i := i) (by omega)]
   exact hnext
  ·
   rw [decide_eq_false g]; exact hend _

theorem l0_ev {w x : ByteArray} (hw : isW w = true) (c4 : Int) (es : List Int) (hel : es.length = w.size) (hE : EndsL w es) (n i0 : Nat) (hL : 0 < w.size → Lng w n i0) (hx : 0 < w.size → c4 = 0 ∧ x.size = n) :
  ∀ (d i : Nat) (mo : Int), i + d = es.length → 0 ≤ mo → mo ≤ (n : Int) → (0 < w.size → i0 + n ≤ i → mo = (n : Int)) → Ev (fun k => laws_FnPalindromes.l0 k w (palAll w) x c4 es mo (i : Int)) true := by
 have hs := isW_size hw
 intro d
 induction d with
 | zero =>
  intro i mo hi h0 h1 h2
  refine ev_suc ?_
  simp only [laws_FnPalindromes.l0, show ¬ ((i : Int) < (es.length : Int)) by omega, if_false]
  refine l1_ev hw c4 mo (fun he => ?_) (palAll w).length 0 (by omega)
  have hp : 0 < w.size := by
   rcases Nat.eq_zero_or_pos w.size with g | g
   ·
    exact absurd (List.eq_nil_of_length_eq_zero (by rw [tl_len]; exact g)) he
   ·
    exact g
  have hle := (hL hp).le
  obtain ⟨y1, y2⟩ := hx hp
  exact ⟨y1, by rw [y2, h2 hp (by omega)]⟩
 | succ d ih =>
  intro i mo hi h0 h1 h2
  have hil : i < es.length := by omega
  have hp : 0 < w.size := by omega
  have hLn := hL hp
  obtain ⟨p, hP, hv⟩ := hE i hil
  have hle := hP.le
  have hen := lng_end_le hLn (by omega) hP
  have er : rd es (i : Int) = ((i + 1 - p : Nat) : Int) := by rw [rd_nat _ _ hil, hv]
  have hmx : mx mo ((i + 1 - p : Nat) : Int) ≤ (n : Int) ∧ 0 ≤ mx mo ((i + 1 - p : Nat) : Int) ∧ mo ≤ mx mo ((i + 1 - p : Nat) : Int) ∧ ((i + 1 - p : Nat) : Int) ≤ mx mo ((i + 1 - p : Nat) : Int) := by
   unfold mx; split <;> omega
  have hnext := ih (i + 1) (mx mo ((i + 1 - p : Nat) : Int)) (by omega) hmx.2.1 hmx.1 (fun _ hin => by
   by_cases e : i0 + n ≤ i
   ·
    have := h2 hp e
    omega
   ·
    have e2 : i + 1 = i0 + n := by omega
    rw [e2] at hP
    have := lng_end_ge hLn hP
    omega)
  have y1 : (i : Int) < (es.length : Int) := by omega
  have y2 : (0 : Int) ≤ (i : Int) := by omega
  have y3 : ¬ (((i + 1 - p : Nat) : Int) < 1) := by omega
  have y4 : wrap64 ((i : Int) + 1) = ((i + 1 : Nat) : Int) := wrap_succ (by omega)
  refine ev_suc ?_
  simp only [laws_FnPalindromes.l0, y1, y2, if_true, er, y3, if_false, y4]
  clear y4
  by_cases hi0 : (i : Int) > 0
  ·
   obtain ⟨j, rfl⟩ : ∃ j, i = j + 1 := ⟨i - 1, by omega⟩
   obtain ⟨q, hQ, hv2⟩ := hE j (by omega)
   have hst := endP_step (w := w) (n := j + 1) (by omega) hQ hP
   have hql := hQ.le
   have t1 : (0 : Int) ≤ (j : Int) := by omega
   have t2 : (j : Int) < (es.length : Int) := by omega
   have t3 : ¬ (((j + 1 + 1 - p : Nat) : Int) > ((j + 1 - q + 2 : Nat) : Int)) := by omega
   have er2 : rd es (j : Int) = ((j + 1 - q : Nat) : Int) := by rw [rd_nat _ _ (by omega), hv2]
   have e1 : wrap64 (((j + 1 : Nat) : Int) - 1) = (j : Int) := wrap_nat (by omega) (by omega)
   have e2 : wrap64 (((j + 1 - q : Nat) : Int) + 2) = ((j + 1 - q + 2 : Nat) : Int) := wrap_nat (by omega) (by omega)
   simp only [hi0, if_true, e1, t1, t2, er2, e2, t3, if_false]
   exact hnext
  ·
   simp only [hi0, if_false]
   exact hnext

theorem byte_ok {x : Int} (h : (Lit.int .u8 x).wf = true) : 0 ≤ x ∧ x ≤ 255 := by
 have e1 : IntKind.u8.min = 0 := by decide
 have e2 : IntKind.u8.max = 255 := by decide
 simp [Lit.wf] at h
 omega

theorem FnPalindromes : laws_FnPalindromes.Pure := by
 intro c hc1 hc2 hc3
 refine ev_get ?_
 unfold laws_FnPalindromes.f laws_big.f
 simp only [Option.bind_some]
 by_cases hbig : (c.length : Int) > 4096
 ·
  have e : decide ((c.length : Int) > 4096) = true := decide_eq_true hbig
  simp only [e, if_true]; exact ev_of rfl
 have e : decide ((c.length : Int) > 4096) = false := decide_eq_false hbig
 simp only [e, Bool.false_eq_true, if_false]
 have hc : okC c := ⟨by omega, fun x hx => byte_ok (hc3 x hx)⟩
 obtain ⟨w, h1, h2⟩ := drawPals_ok hc
 obtain ⟨u, h3, h4⟩ := drawIsPal_ok hc
 obtain ⟨a1, a2⟩ := palsOf_ev w h2
 obtain ⟨b1, b2⟩ := count_ev w h2
 obtain ⟨d1, d2⟩ := defect_ev w h2
 obtain ⟨lg, g0, g00, g1, g2⟩ := longest_ev w h2
 obtain ⟨es, f0, f00, f1, f2⟩ := ends_ev w h2
 obtain ⟨k1, k2⟩ := isPal_ev u h4
 refine ev_bnd h1 (ev_bnd a2 (ev_bnd a1 ?_))
 have e5 : ∀ b : Bool, (b != b) = false := fun b => by cases b <;> rfl
 have s1 : Ev (fun k => laws_words9.f k (if isW w = true then (palAll w, (0 : Int)) else ([], 1)).1 (if isW w = true then (palAll w, (0 : Int)) else ([], 1)).1) true := by
  have := palAll_le w
  by_cases hh : isW w = true
  ·
   simp only [hh, if_true]; exact words9_ev _ (by omega)
  ·
   simp only [hh, if_false]; exact words9_ev [] (by simp)
 have s2 := like_ev es.1 (by omega)
 simp only [if_true]
 refine ev_bnd s1 ?_
 simp only [Bool.not_true]
 refine ev_suc ?_
 simp only [laws_FnPalindromes.j0, Bool.false_eq_true, if_false]
 refine ev_bnd b2 (ev_bnd b1 ?_)
 simp only [if_true, bne_false]
 refine ev_suc ?_
 simp only [laws_FnPalindromes.j1, Bool.false_eq_true, if_false]
 refine ev_bnd d2 (ev_bnd d1 ?_)
 simp only [if_true, bne_false]
 refine ev_suc ?_
 simp only [laws_FnPalindromes.j2, Bool.false_eq_true, if_false]
 refine ev_bnd g2 (ev_bnd g1 ?_)
 simp only [if_true, bne_false]
 refine ev_suc ?_
 simp only [laws_FnPalindromes.j3, Bool.false_eq_true, if_false]
 refine ev_bnd f2 (ev_bnd f1 ?_)
 simp only [if_true]
 refine ev_bnd s2 ?_
 simp only [Bool.not_true]
 refine ev_suc ?_
 simp only [laws_FnPalindromes.j4, Bool.false_eq_true, if_false]
 refine ev_bnd h3 (ev_bnd k2 (ev_bnd k1 ?_))
 simp only [if_true, e5]
 refine ev_suc ?_
 simp only [laws_FnPalindromes.j5, Bool.false_eq_true, if_false]
 by_cases h0 : isW w = true
 ·
  have hs := isW_size h0
  have hpl := palAll_le w
  have hcg := cntP_ge w w.size 0 (by omega)
  obtain ⟨z1, z2, z3⟩ := f00 h0
  have w1 : wrap64 ((w.size : Int) - ((palAll w).length : Int)) = (w.size : Int) - ((palAll w).length : Int) := wrap_id (by omega) (by omega)
  have w2 : ¬ (w.size : Int) - ((palAll w).length : Int) < 0 := by omega
  have w3 : ¬ ((cntP' w w.size 0 : Nat) : Int) < (w.size : Int) := by omega
  have w4 : ((es.1.length : Nat) : Int) = (w.size : Int) := by omega
  simp only [h0, if_true, z1, w1, w2, w3, if_false, w4, bne_false]
  refine ev_suc ?_
  simp only [laws_FnPalindromes.j6, Bool.false_eq_true, if_false]
  rcases Nat.eq_zero_or_pos w.size with hz | hz
  ·
   exact l0_ev h0 lg.2.2 es.1 z2 z3 0 0 (fun h => by omega) (fun h => by omega) es.1.length 0 0 (by omega) (by omega) (by omega) (fun h => by omega)
  ·
   obtain ⟨n, i, hL, hr⟩ := g0 h0 hz
   have hle := hL.le
   have hxs : (w.extract i (i + n)).size = n := by rw [ByteArray.size_extract]; omega
   refine l0_ev h0 lg.2.2 es.1 z2 z3 n i (fun _ => hL) (fun _ => ⟨by rw [hr], by rw [hr]; exact hxs⟩) es.1.length 0 0 (by omega) (by omega) (by omega) (fun _ h => ?_)
   have := hL.pos
   omega
 ·
  have h0' : isW w = false := by simpa using h0
  have g3 := g00 h0'
  simp only [h0, if_false, show ¬ ((1 : Int) = 0) by omega, List.length_nil, show ((0 : Nat) : Int) = 0 from rfl, if_true, g3]
  exact ev_of rfl

end Go.Proofs.Ytfihfeffbhohjaa.Pure
