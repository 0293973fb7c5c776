/- The reference's draws of words with covers: each returns, and what it returns is not long. -/
import Derived.Test.YtcfphjjdbccnoaaGreatPFLibDs
import Derived.Test.YtcfphjjdbccnoaaGreatPFx1
import Derived.Test.YtcfphjjdbccnoaaGreatPFx1
import Derived.Test.YtcfphjjdbccnoaaGreatPFx2
import Derived.Test.YtcfphjjdbccnoaaGreatPFx3
import Derived.Test.YtcfphjjdbccnoaaGreatPFx3
import Derived.Test.YtcfphjjdbccnoaaGreatPFx3
import Derived.Test.YtcfphjjdbccnoaaGreatPFx3
namespace Go.Proofs.YtcfphjjdbccnoaaGreat.PF
open Go.RowKit Go.Proofs.YtcfphjjdbccnoaaGreatW.PrintWords Go.Proofs.YtcfphjjdbccnoaaGreatW.PrintLast Go.Proofs.YtcfphjjdbccnoaaGreatW.PrintMore
set_option linter.unusedVariables false
set_option linter.unusedSimpArgs false
set_option maxRecDepth 20000

theorem ex_nil (a : ByteArray) (i j : Nat) (h : (a.extract i j).size = 0) : (a.extract i j).toList = [] := by
 rw [toList_eq]; exact List.eq_nil_of_length_eq_zero (by rw [Array.length_toList]; exact h)
theorem ends_loop (u : ByteArray) (hu : u.size ≤ 1000) : ∀ (d i : Nat) (acc : List Int), i + d = u.size → acc.length ≤ i → (∀ x ∈ acc, 0 ≤ x ∧ x < (u.size : Int)) →
  ∃ l, (∀ k, d < k → spec_l09Ends.l0 k u acc (i : Int) = some l) ∧ l.length ≤ u.size ∧ (∀ x ∈ l, 0 ≤ x ∧ x < (u.size : Int)) ∧ acc.length ≤ l.length ∧ (i = 0 → 0 < d → 0 < l.length) := by
 intro d
 induction d with
 | zero =>
  intro i acc hi ha hx
  refine ⟨acc, fun k hk => ?_, by omega, hx, Nat.le_refl _, fun _ h => by omega⟩
  obtain ⟨k, rfl⟩ : ∃ m, k = m + 1 := ⟨k - 1, by omega⟩
  rw [spec_l09Ends.l0, if_neg (by omega)]
 | succ d ih =>
  intro i acc hi ha hx
  have e : wrap64 ((u.size : Int) - (i : Int)) = ((u.size - i : Nat) : Int) := by rw [wrap_id (by omega) (by omega)]; omega
  by_cases ht : (u.extract 0 i).toList = (u.extract (u.size - i) u.size).toList
  ·
   obtain ⟨l, h1, h2, h3, h4, _⟩ := ih (i + 1) (acc ++ [(i : Int)]) (by omega) (by simp; omega) (by
    intro x hxm
    rw [List.mem_append, List.mem_singleton] at hxm
    rcases hxm with h | h
    ·
     exact hx x h
    ·
     subst h; omega)
   rw [List.length_append, List.length_singleton] at h4
   refine ⟨l, fun k hk => ?_, h2, h3, by omega, fun _ _ => by omega⟩
   obtain ⟨k, rfl⟩ : ∃ m, k = m + 1 := ⟨k - 1, by omega⟩
   rw [spec_l09Ends.l0, if_pos (by omega), if_pos (by omega), if_pos (by omega), e, if_pos (by omega), if_pos (by omega), Int.toNat_natCast, Int.toNat_natCast, if_pos ht, if_pos (by omega), wrap_succ (by omega)]
   exact h1 k (by omega)
  ·
   obtain ⟨l, h1, h2, h3, h4, _⟩ := ih (i + 1) acc (by omega) (by omega) hx
   refine ⟨l, fun k hk => ?_, h2, h3, h4, fun h0 _ => ?_⟩
   ·
    obtain ⟨k, rfl⟩ : ∃ m, k = m + 1 := ⟨k - 1, by omega⟩
    rw [spec_l09Ends.l0, if_pos (by omega), if_pos (by omega), if_pos (by omega), e, if_pos (by omega), if_pos (by omega), Int.toNat_natCast, Int.toNat_natCast, if_neg ht, wrap_succ (by omega)]
    exact h1 k (by omega)
   ·
    subst h0
    exact absurd ((ex_nil u 0 0 (by rw [ByteArray.size_extract]; omega)).trans (ex_nil u _ _ (by rw [ByteArray.size_extract]; omega)).symm) ht
theorem ends_ok (u : ByteArray) (hu : u.size ≤ 1000) (h0 : 0 < u.size) : ∃ l, Ev (fun k => spec_l09Ends.f k u) l ∧ l.length ≤ u.size ∧ 0 < l.length ∧ ∀ x ∈ l, 0 ≤ x ∧ x < (u.size : Int) := by
 obtain ⟨l, h1, h2, h3, h4, h5⟩ := ends_loop u hu u.size 0 [] (by omega) (by simp) (by simp)
 exact ⟨l, ⟨u.size + 1, fun k hk => h1 k (by omega)⟩, h2, h5 rfl h0, h3⟩

theorem d9_j2 {c : List Int} (hc : okC c) {s1 : Int} (hs : okS c s1) (s2 : Int) (u w : ByteArray) (b : Bool) (hw : w.size ≤ 1000) (hb : b = true → 0 < w.size) :
  ∃ r t1 t2, (∀ k, 0 < k → spec_l09Draw.j2 k u w b c s1 s2 = some (r, u, t1, t2)) ∧ okS c t1 ∧ r.size ≤ w.size := by
 cases b with
 | false =>
  refine ⟨w, s1, s2, fun k hk => ?_, hs, Nat.le_refl _⟩
  obtain ⟨k, rfl⟩ : ∃ m, k = m + 1 := ⟨k - 1, by omega⟩
  rw [spec_l09Draw.j2, if_neg (by simp)]
 | true =>
  have h0 := hb rfl
  obtain ⟨n, t1, t2, e, h1, _⟩ := next_ok hc hs s2 3
  have hz := letter_sz ((wrap64 (97 + n)) % 256)
  have ew : wrap64 ((w.size : Int) - 1) = ((w.size - 1 : Nat) : Int) := by rw [wrap_id (by omega) (by omega)]; omega
  have hx : (w.extract 0 (w.size - 1)).size = w.size - 1 := by rw [ByteArray.size_extract]; omega
  refine ⟨w.extract 0 (w.size - 1) ++ strOfNums [(wrap64 (97 + n)) % 256], t1, t2, fun k hk => ?_, h1, by rw [ByteArray.size_append]; omega⟩
  obtain ⟨k, rfl⟩ : ∃ m, k = m + 1 := ⟨k - 1, by omega⟩
  rw [spec_l09Draw.j2, if_pos rfl, ew, if_pos (by omega), if_pos (by omega), e, Option.bind_some]
  simp only [spec_l01Letter.f, Option.bind_some, Int.toNat_natCast]
  rw [if_pos (by omega)]

theorem d9_j1 {c : List Int} (hc : okC c) {s1 : Int} (hs : okS c s1) (s2 : Int) (u w : ByteArray) (hu0 : 0 < u.size) (huw : u.size ≤ w.size) (hw : w.size ≤ 1000) :
  ∃ r t1 t2, (∀ k, 1 < k → spec_l09Draw.j1 k u w c s1 s2 = some (r, u, t1, t2)) ∧ okS c t1 ∧ r.size ≤ w.size := by
 obtain ⟨n, t1, t2, e, h1, _⟩ := next_ok hc hs s2 4
 by_cases n0 : n = 0
 ·
  obtain ⟨i, u1, u2, e2, g1, g2, g3, _⟩ := next_ok hc h1 t2 (u.size : Int)
  have g3 := g3 (by omega)
  obtain ⟨t, v1, v2, e3, f1, f2, f3, _⟩ := next_ok hc g1 u2 4
  have f3 := f3 (by omega)
  obtain ⟨j, rfl⟩ : ∃ j : Nat, i = j := ⟨i.toNat, by omega⟩
  have hx : (w.extract j w.size).size = w.size - j := by rw [ByteArray.size_extract]; omega
  obtain ⟨q, hq, hq1⟩ : ∃ q : Nat, mx (wrap64 (((w.extract j w.size).size : Int) - t)) 0 = q ∧ q ≤ (w.extract j w.size).size := by
   rw [wrap_id (by omega) (by omega)]
   unfold mx
   split
   ·
    exact ⟨0, rfl, by omega⟩
   ·
    refine ⟨(((w.extract j w.size).size : Int) - t).toNat, by omega, by omega⟩
  refine ⟨(w.extract j w.size).extract 0 q, v1, v2, fun k hk => ?_, f1, by rw [ByteArray.size_extract]; omega⟩
  obtain ⟨k, rfl⟩ : ∃ m, k = m + 1 := ⟨k - 1, by omega⟩
  rw [spec_l09Draw.j1, e, Option.bind_some]
  simp only [n0, if_true, e2, Option.bind_some, Int.toNat_natCast]
  rw [if_pos (by omega), if_pos (by omega), e3, Option.bind_some, hq, if_pos (by omega), if_pos (by omega), Int.toNat_natCast]
 ·
  by_cases n1 : n = 1
  ·
   by_cases hsz : (w.size : Int) > 2
   ·
    obtain ⟨i, u1, u2, e2, g1, _⟩ := next_ok hc h1 t2 2
    obtain ⟨r, v1, v2, p1, p2, p3⟩ := d9_j2 hc g1 u2 u w (i == 0) hw (fun _ => by omega)
    refine ⟨r, v1, v2, fun k hk => ?_, p2, p3⟩
    obtain ⟨k, rfl⟩ : ∃ m, k = m + 1 := ⟨k - 1, by omega⟩
    rw [spec_l09Draw.j1, e, Option.bind_some]
    simp only [n1, show ¬ ((1 : Int) = 0) by omega, if_false, if_true, hsz, e2, Option.bind_some]
    exact p1 k (by omega)
   ·
    obtain ⟨r, v1, v2, p1, p2, p3⟩ := d9_j2 hc h1 t2 u w false hw (fun h => by cases h)
    refine ⟨r, v1, v2, fun k hk => ?_, p2, p3⟩
    obtain ⟨k, rfl⟩ : ∃ m, k = m + 1 := ⟨k - 1, by omega⟩
    rw [spec_l09Draw.j1, e, Option.bind_some]
    simp only [n1, show ¬ ((1 : Int) = 0) by omega, if_false, if_true, hsz]
    exact p1 k (by omega)
  ·
   refine ⟨w, t1, t2, fun k hk => ?_, h1, Nat.le_refl _⟩
   obtain ⟨k, rfl⟩ : ∃ m, k = m + 1 := ⟨k - 1, by omega⟩
   rw [spec_l09Draw.j1, e, Option.bind_some]
   simp only [n0, n1, if_false]

theorem d9_l0 {c : List Int} (hc : okC c) (u : ByteArray) (hu0 : 0 < u.size) (hu : u.size ≤ 100) (l : List Int) (hl0 : 0 < l.length) (hll : l.length ≤ 1000) (hl : ∀ x ∈ l, 0 ≤ x ∧ x < (u.size : Int)) :
  ∀ (d : Nat) (w : ByteArray) (s1 s2 : Int), okS c s1 → d ≤ 100 → u.size ≤ w.size → w.size ≤ 200 → ∃ r t1 t2, (∀ k, d + 2 < k → spec_l09Draw.l0 k u w l (d : Int) c s1 s2 = some (r, u, t1, t2)) ∧ okS c t1 ∧ r.size ≤ 200 := by
 intro d
 induction d with
 | zero =>
  intro w s1 s2 hs hd huw hw
  obtain ⟨r, v1, v2, p1, p2, p3⟩ := d9_j1 hc hs s2 u w hu0 huw (by omega)
  refine ⟨r, v1, v2, fun k hk => ?_, p2, by omega⟩
  obtain ⟨k, rfl⟩ : ∃ m, k = m + 1 := ⟨k - 1, by omega⟩
  rw [spec_l09Draw.l0, if_neg (by omega)]
  exact p1 k (by omega)
 | succ d ih =>
  intro w s1 s2 hs hd huw hw
  by_cases h48 : (w.size : Int) < 48
  ·
   obtain ⟨i, u1, u2, e2, g1, g2, g3, _⟩ := next_ok hc hs s2 (l.length : Int)
   have g3 := g3 (by omega)
   obtain ⟨q1, q2⟩ := hl _ (rd_mem l i g2 g3)
   have hx : (u.extract (rd l i).toNat u.size).size ≤ u.size := by rw [ByteArray.size_extract]; omega
   have hsz : (w ++ u.extract (rd l i).toNat u.size).size = w.size + (u.extract (rd l i).toNat u.size).size := ByteArray.size_append
   obtain ⟨r, v1, v2, p1, p2, p3⟩ := ih (w ++ u.extract (rd l i).toNat u.size) u1 u2 g1 (by omega) (by omega) (by omega)
   refine ⟨r, v1, v2, fun k hk => ?_, p2, p3⟩
   obtain ⟨k, rfl⟩ : ∃ m, k = m + 1 := ⟨k - 1, by omega⟩
   rw [spec_l09Draw.l0, if_pos (by omega), if_pos h48, e2, Option.bind_some]
   dsimp only
   rw [if_pos g2, if_pos g3, if_pos q1, if_pos (by omega), if_pos (by omega), wrap_id (by omega) (by omega), show (((d + 1 : Nat) : Int) - 1) = (d : Int) by omega]
   exact p1 k (by omega)
  ·
   obtain ⟨r, v1, v2, p1, p2, p3⟩ := d9_j1 hc hs s2 u w hu0 huw (by omega)
   refine ⟨r, v1, v2, fun k hk => ?_, p2, by omega⟩
   obtain ⟨k, rfl⟩ : ∃ m, k = m + 1 := ⟨k - 1, by omega⟩
   rw [spec_l09Draw.l0, if_pos (by omega), if_neg h48]
   exact p1 k (by omega)

theorem d9_ok {c : List Int} (hc : okC c) {s1 : Int} (hs : okS c s1) (s2 : Int) : ∃ w u t1 t2, Ev (fun k => spec_l09Draw.f k c s1 s2) (w, u, t1, t2) ∧ okS c t1 ∧ w.size ≤ 200 ∧ u.size ≤ 200 := by
 unfold spec_l09Draw.f
 obtain ⟨n, t1, t2, e, h1, _⟩ := next_ok hc hs s2 3
 simp only [e, Option.bind_some]
 by_cases n0 : n = 0
 ·
  simp only [n0, if_true]
  obtain ⟨w, u1, u2, g1, g2, g3⟩ := draw_ok hc h1 t2
  have hw : wrap64 ((w.size : Int) + 1) = (w.size : Int) + 1 := wrap_id (by omega) (by omega)
  obtain ⟨i, v1, v2, e2, f1, f2, f3, _⟩ := next_ok hc g2 u2 ((w.size : Int) + 1)
  have f3 := f3 (by omega)
  refine ⟨w, w.extract 0 i.toNat, v1, v2, ev_bnd g1 ?_, f1, by omega, by rw [ByteArray.size_extract]; omega⟩
  simp only [hw, e2, Option.bind_some, f2, if_true, show i ≤ (w.size : Int) by omega]
  exact ev_of rfl
 ·
  simp only [n0, if_false]
  obtain ⟨i, u1, u2, e2, g1, g2, g3, _⟩ := next_ok hc h1 t2 3
  have g3 := g3 (by omega)
  have hw : wrap64 (1 + i) = 1 + i := wrap_id (by omega) (by omega)
  obtain ⟨a, w1, w2, q1, q2, q3⟩ := drawOf_ok hc g1 u2 (1 + i) 2 (by omega)
  rw [if_pos (by omega)] at q3
  obtain ⟨j, x1, x2, e4, k1, k2, k3, _⟩ := next_ok hc q2 w2 2
  have k3 := k3 (by omega)
  obtain ⟨z, y1, y2, p1, p2, p3⟩ := drawOf_ok hc k1 x2 j 2 (by omega)
  rw [if_pos k2] at p3
  have z1 : (a ++ z).size = a.size + z.size := ByteArray.size_append
  have z2 : (a ++ z ++ a).size = a.size + z.size + a.size := by rw [ByteArray.size_append, z1]
  obtain ⟨l, o1, o2, o3, o4⟩ := ends_ok (a ++ z ++ a) (by omega) (by omega)
  obtain ⟨m, m1, m2, e5, r1, r2, r3, _⟩ := next_ok hc p2 y2 6
  have r3 := r3 (by omega)
  obtain ⟨d, rfl⟩ : ∃ d : Nat, m = d := ⟨m.toNat, by omega⟩
  obtain ⟨r, v1, v2, b1, b2, b3⟩ := d9_l0 hc (a ++ z ++ a) (by omega) (by omega) l o3 (by omega) o4 d (a ++ z ++ a) m1 m2 r1 (by omega) (Nat.le_refl _) (by omega)
  simp only [e2, hw, Option.bind_some]
  refine ⟨r, a ++ z ++ a, v1, v2, ev_bnd q1 ?_, b2, b3, by omega⟩
  simp only [e4, Option.bind_some]
  refine ev_bnd p1 ?_
  simp only [show a.size + z.size ≤ 9223372036854775807 by omega, show (a ++ z).size + a.size ≤ 9223372036854775807 by omega, if_true]
  refine ev_bnd o1 ?_
  simp only [e5, Option.bind_some]
  exact ⟨d + 3, fun k hk => b1 k (by omega)⟩

theorem with_ok {c : List Int} (hc : okC c) : ∃ w u, Ev (fun k => spec_l09With.f k c) (w, u) ∧ w.size ≤ 100000 ∧ u.size ≤ 100000 := by
 unfold spec_l09With.f
 obtain ⟨s2, h0⟩ := from_ok hc
 obtain ⟨w, u, t1, t2, g1, g2, g3, g4⟩ := d9_ok hc (okS0 c) s2
 obtain ⟨n, u1, u2, e, h1, _⟩ := next_ok hc g2 t2 20
 obtain ⟨a, v1, v2, p1, p2, p3⟩ := bad_ok hc h1 u2 w (by omega)
 by_cases n0 : n = 0
 ·
  obtain ⟨b, w1, w2, q1, q2, q3⟩ := bad_ok hc p2 v2 (⟨#[]⟩ : ByteArray) (by show 0 ≤ 1000; omega)
  refine ⟨a, b, ev_bnd h0 (ev_bnd g1 ?_), p3, q3⟩
  simp only [e, Option.bind_some, n0, if_true]
  exact ev_bnd p1 (ev_bnd q1 (ev_of rfl))
 ·
  obtain ⟨b, w1, w2, q1, q2, q3⟩ := bad_ok hc p2 v2 u (by omega)
  refine ⟨a, b, ev_bnd h0 (ev_bnd g1 ?_), p3, q3⟩
  simp only [e, Option.bind_some, n0, if_false]
  exact ev_bnd p1 (ev_bnd q1 (ev_of rfl))
theorem one_ok {c : List Int} (hc : okC c) : ∃ w, Ev (fun k => spec_l09One.f k c) w ∧ w.size ≤ 100000 := by
 obtain ⟨w, u, h1, h2, _⟩ := with_ok hc
 refine ⟨w, ?_, h2⟩
 unfold spec_l09One.f
 exact ev_bnd h1 (ev_of rfl)
theorem drawLeastSeed_ok {c : List Int} (hc : okC c) : ∃ w, Ev (fun k => spec_DrawLeastSeed.f k c) w ∧ w.size ≤ 100000 := by
 obtain ⟨w, h1, h2⟩ := one_ok hc
 refine ⟨w, ?_, h2⟩
 unfold spec_DrawLeastSeed.f
 exact ev_bnd h1 (ev_of rfl)
theorem drawBestBorder_ok {c : List Int} (hc : okC c) : ∃ w, Ev (fun k => spec_DrawBestBorder.f k c) w ∧ w.size ≤ 100000 := by
 obtain ⟨w, h1, h2⟩ := one_ok hc
 refine ⟨w, ?_, h2⟩
 unfold spec_DrawBestBorder.f
 exact ev_bnd h1 (ev_of rfl)
theorem drawIsSeed_ok {c : List Int} (hc : okC c) : ∃ w u, Ev (fun k => spec_DrawIsSeed.f k c) (w, u) ∧ w.size ≤ 100000 ∧ u.size ≤ 100000 := by
 obtain ⟨w, u, h1, h2, h3⟩ := with_ok hc
 refine ⟨w, u, ?_, h2, h3⟩
 unfold spec_DrawIsSeed.f
 exact ev_bnd h1 (ev_of rfl)
theorem drawFirstTwo_ok {c : List Int} (hc : okC c) : ∃ w m, Ev (fun k => spec_DrawFirstTwo.f k c) (w, m) ∧ w.size ≤ 100000 := by
 obtain ⟨w, h1, h2⟩ := one_ok hc
 obtain ⟨s2, h0⟩ := from_ok hc
 obtain ⟨v, v1, v2, e3, f1, f2⟩ := pick_ok hc (okS0 c) s2 [1, 1, 2, 2, 3, 4, 5, 60, 0, 61] (by decide)
 refine ⟨w, v, ?_, h2⟩
 unfold spec_DrawFirstTwo.f
 refine ev_bnd h1 (ev_bnd h0 ?_)
 simp only [e3, Option.bind_some]
 exact ev_of rfl
theorem drawSeedsOf_ok {c : List Int} (hc : okC c) : ∃ w m, Ev (fun k => spec_DrawSeedsOf.f k c) (w, m) ∧ w.size ≤ 100000 := by
 obtain ⟨w, h1, h2⟩ := one_ok hc
 obtain ⟨s2, h0⟩ := from_ok hc
 obtain ⟨v, v1, v2, e3, f1, f2⟩ := pick_ok hc (okS0 c) s2 [1, 2, 3, 3, 4, 5, 6, 7, 60, 0, 61] (by decide)
 refine ⟨w, v, ?_, h2⟩
 unfold spec_DrawSeedsOf.f
 refine ev_bnd h1 (ev_bnd h0 ?_)
 simp only [e3, Option.bind_some]
 exact ev_of rfl
theorem two_j0 {c : List Int} (hc : okC c) {s1 : Int} (hs : okS c s1) (s2 : Int) (w u v : ByteArray) (hw : w.size ≤ 1000) (hu : u.size ≤ 1000) (hv : v.size ≤ 1000) (b : Bool) (hb : b = true → 2 ≤ w.size) :
  ∃ r, Ev (fun k => spec_DrawCoveredByTwo.j0 k w u v b c s1 s2) r ∧ r.1.size ≤ 100000 ∧ r.2.1.size ≤ 100000 ∧ r.2.2.size ≤ 100000 := by
 obtain ⟨x, a1, a2, p1, p2, p3⟩ := bad_ok hc hs s2 w hw
 obtain ⟨y, b1, b2, q1, q2, q3⟩ := bad_ok hc p2 a2 u hu
 cases b with
 | false =>
  obtain ⟨z, c1, c2, r1, r2, r3⟩ := bad_ok hc q2 b2 v hv
  refine ⟨(x, y, z), ev_suc ?_, p3, q3, r3⟩
  simp only [spec_DrawCoveredByTwo.j0, Bool.false_eq_true, if_false]
  exact ev_bnd p1 (ev_bnd q1 (ev_bnd r1 (ev_of rfl)))
 | true =>
  have h2 := hb rfl
  have ew : wrap64 ((w.size : Int) - 2) = ((w.size - 2 : Nat) : Int) := by rw [wrap_id (by omega) (by omega)]; omega
  obtain ⟨z, c1, c2, r1, r2, r3⟩ := bad_ok hc q2 b2 (w.extract (w.size - 2) w.size) (by rw [ByteArray.size_extract]; omega)
  refine ⟨(x, y, z), ev_suc ?_, p3, q3, r3⟩
  simp only [spec_DrawCoveredByTwo.j0, if_true, ew, show (0 : Int) ≤ ((w.size - 2 : Nat) : Int) by omega, show ((w.size - 2 : Nat) : Int) ≤ (w.size : Int) by omega, Int.toNat_natCast]
  exact ev_bnd p1 (ev_bnd q1 (ev_bnd r1 (ev_of rfl)))
theorem drawTwo_ok {c : List Int} (hc : okC c) : ∃ r, Ev (fun k => spec_DrawCoveredByTwo.f k c) r ∧ r.1.size ≤ 100000 ∧ r.2.1.size ≤ 100000 ∧ r.2.2.size ≤ 100000 := by
 unfold spec_DrawCoveredByTwo.f
 obtain ⟨s2, h0⟩ := from_ok hc
 obtain ⟨w, u, t1, t2, g1, g2, g3, g4⟩ := d9_ok hc (okS0 c) s2
 obtain ⟨i, u1, u2, e, h1, h2, h3, _⟩ := next_ok hc g2 t2 3
 have h3 := h3 (by omega)
 have hw : wrap64 (1 + i) = 1 + i := wrap_id (by omega) (by omega)
 obtain ⟨v, w1, w2, q1, q2, q3⟩ := drawOf_ok hc h1 u2 (1 + i) 2 (by omega)
 rw [if_pos (by omega)] at q3
 by_cases h4 : (w.size : Int) > 3
 ·
  obtain ⟨j, x1, x2, e4, k1, _⟩ := next_ok hc q2 w2 2
  obtain ⟨r, r1, r2⟩ := two_j0 hc k1 x2 w u v (by omega) (by omega) (by omega) (j == 0) (fun _ => by omega)
  refine ⟨r, ev_bnd h0 (ev_bnd g1 ?_), r2⟩
  simp only [e, Option.bind_some, hw]
  refine ev_bnd q1 ?_
  simp only [h4, if_true, e4, Option.bind_some]
  exact r1
 ·
  obtain ⟨r, r1, r2⟩ := two_j0 hc q2 w2 w u v (by omega) (by omega) (by omega) false (fun h => by cases h)
  refine ⟨r, ev_bnd h0 (ev_bnd g1 ?_), r2⟩
  simp only [e, Option.bind_some, hw]
  refine ev_bnd q1 ?_
  simp only [h4, if_false]
  exact r1

end Go.Proofs.YtcfphjjdbccnoaaGreat.PF
