/- The reference's draws: each returns, and what it returns is not long. -/
import Derived.Test.YtcfphjjdbccnoaaGreatPFLibW
import Derived.Laws.BitsLemmas
import Derived.Test.YtcfphjjdbccnoaaGreatPFx0
import Derived.Test.YtcfphjjdbccnoaaGreatPFx1
namespace Go.Proofs.YtcfphjjdbccnoaaGreat.PF
open Go.RowKit Go.Proofs.YtcfphjjdbccnoaaGreatW.PrintWords Go.Proofs.YtcfphjjdbccnoaaGreatW.PrintLast Go.Proofs.YtcfphjjdbccnoaaGreatW.PrintMore
set_option linter.unusedVariables false
set_option linter.unusedSimpArgs false
set_option maxRecDepth 20000

/-- A code, and a place in it. -/
def okC (c : List Int) : Prop := c.length ≤ 4096 ∧ ∀ x ∈ c, 0 ≤ x ∧ x ≤ 255
def okS (c : List Int) (s : Int) : Prop := 0 ≤ s ∧ s ≤ (c.length : Int)

theorem u64_rng (y : Int) : 0 ≤ IntKind.u64.wrap y ∧ IntKind.u64.wrap y < 18446744073709551616 := by
 simp only [IntKind.wrap]
 first | omega | (simp [IntKind.bits, IntKind.signed]; omega)
theorem u64_id (n : Int) (h0 : 0 ≤ n) (h1 : n < 2 ^ 64) : IntKind.u64.wrap n = n := by
 have h2 : n < 18446744073709551616 := h1
 simp only [IntKind.wrap]
 first | omega | (simp [IntKind.bits, IntKind.signed]; omega)
theorem mask24 (y : Int) : ∃ v : Int, Go.bits .and .u64 (IntKind.u64.wrap y / 8589934592) 16777215 = v ∧ 0 ≤ v ∧ v < 16777216 := by
 obtain ⟨h0, h1⟩ := u64_rng y
 have e64 : (2 : Int) ^ 64 = 18446744073709551616 := by decide
 have h := bits_mask .u64 64 (by decide) u64_id 24 (by decide) (IntKind.u64.wrap y / 8589934592) (by omega) (by rw [e64]; omega)
 have e : ((2 : Int) ^ 24 - 1) = 16777215 := by decide
 have e2 : ((2 : Int) ^ 24) = 16777216 := by decide
 rw [e, e2] at h
 exact ⟨_, h, by omega, by omega⟩
theorem rd_mem (l : List Int) (i : Int) (h0 : 0 ≤ i) (h1 : i < (l.length : Int)) : rd l i ∈ l := by
 obtain ⟨n, rfl⟩ : ∃ n : Nat, i = n := ⟨i.toNat, by omega⟩
 rw [rd_nat l n (by omega)]; exact List.getElem_mem _

theorem next_ok {c : List Int} (hc : okC c) {s1 : Int} (hs : okS c s1) (s2 a : Int) : ∃ n t1 t2, spec_l01Next.f c s1 s2 a = some (n, t1, t2) ∧ okS c t1 ∧ 0 ≤ n ∧ (1 ≤ a → n < a) ∧ (a < 1 → n = 0) := by
 unfold spec_l01Next.f
 by_cases ha : a < 1
 ·
  rw [if_pos ha]
  exact ⟨_, _, _, rfl, hs, by omega, by omega, fun _ => rfl⟩
 ·
  rw [if_neg ha]
  obtain ⟨v, e, h0, h1⟩ := mask24 ((IntKind.u64.wrap (s2 * 6364136223846793005)) + 1442695040888963407)
  rw [e]
  have hv : wrap64 v = v := wrap_id (by omega) (by omega)
  by_cases h2 : s1 < (c.length : Int)
  ·
   obtain ⟨r0, r1⟩ := hc.2 _ (rd_mem c s1 hs.1 h2)
   have hr : wrap64 (rd c s1) = rd c s1 := wrap_id (by omega) (by omega)
   have hw : wrap64 (v + rd c s1) = v + rd c s1 := wrap_id (by omega) (by omega)
   have hl := hc.1
   rw [if_pos h2, if_pos hs.1, if_neg (by omega), hv, hr, hw]
   refine ⟨_, _, _, rfl, ?_, Int.tmod_nonneg _ (by omega), fun _ => Int.tmod_lt_of_pos _ (by omega), by omega⟩
   rw [wrap_id (by have := hs.1; omega) (by omega)]
   exact ⟨by have := hs.1; omega, by omega⟩
  ·
   rw [if_neg h2, if_neg (by omega), hv]
   exact ⟨_, _, _, rfl, hs, Int.tmod_nonneg _ (by omega), fun _ => Int.tmod_lt_of_pos _ (by omega), by omega⟩

theorem pick_ok {c : List Int} (hc : okC c) {s1 : Int} (hs : okS c s1) (s2 : Int) (l : List Int) (hl : 0 < l.length) : ∃ v t1 t2, spec_l01Pick.f c s1 s2 l = some (v, t1, t2) ∧ okS c t1 ∧ v ∈ l := by
 unfold spec_l01Pick.f
 obtain ⟨n, t1, t2, e, h1, h2, h3, _⟩ := next_ok hc hs s2 (l.length : Int)
 have h3 := h3 (by omega)
 rw [e, Option.bind_some, if_pos h2, if_pos h3]
 exact ⟨_, _, _, rfl, h1, rd_mem l n h2 h3⟩

theorem letter_sz (x : Int) : (strOfNums [x]).size = 1 := by simp [strOfNums, ByteArray.size]
theorem drawOf_loop {c : List Int} (hc : okC c) (m n : Int) (hn : n ≤ 1000) : ∀ (d i : Nat) (acc : ByteArray) (s1 s2 : Int), (i : Int) + d = n → acc.size = i → okS c s1 →
  ∃ r t1 t2, (∀ k, d < k → spec_l01DrawOf.l0 k n m acc (i : Int) c s1 s2 = some (r, t1, t2)) ∧ okS c t1 ∧ r.size = i + d := by
 intro d
 induction d with
 | zero =>
  intro i acc s1 s2 hi ha hs
  refine ⟨acc, s1, s2, fun k hk => ?_, hs, by omega⟩
  obtain ⟨k, rfl⟩ : ∃ m, k = m + 1 := ⟨k - 1, by omega⟩
  rw [spec_l01DrawOf.l0, if_neg (by omega)]
 | succ d ih =>
  intro i acc s1 s2 hi ha hs
  obtain ⟨v, t1, t2, e, h1, _⟩ := next_ok hc hs s2 m
  have hsz := letter_sz ((wrap64 (97 + v)) % 256)
  obtain ⟨r, u1, u2, g1, g2, g3⟩ := ih (i + 1) (acc ++ strOfNums [(wrap64 (97 + v)) % 256]) t1 t2 (by omega) (by rw [ByteArray.size_append, hsz]; omega) h1
  refine ⟨r, u1, u2, fun k hk => ?_, g2, by omega⟩
  obtain ⟨k, rfl⟩ : ∃ m, k = m + 1 := ⟨k - 1, by omega⟩
  rw [spec_l01DrawOf.l0, if_pos (by omega), e, Option.bind_some]
  simp only [spec_l01Letter.f, Option.bind_some]
  rw [if_pos (by rw [hsz]; omega), wrap_succ (by omega)]
  exact g1 k (by omega)
theorem drawOf_ok {c : List Int} (hc : okC c) {s1 : Int} (hs : okS c s1) (s2 n m : Int) (hn : n ≤ 1000) : ∃ r t1 t2, Ev (fun k => spec_l01DrawOf.f k c s1 s2 n m) (r, t1, t2) ∧ okS c t1 ∧ (r.size : Int) = (if 0 ≤ n then n else 0) := by
 by_cases h0 : 0 ≤ n
 ·
  obtain ⟨d, rfl⟩ : ∃ d : Nat, n = d := ⟨n.toNat, by omega⟩
  obtain ⟨r, t1, t2, g1, g2, g3⟩ := drawOf_loop hc m (d : Int) hn d 0 (⟨#[]⟩ : ByteArray) s1 s2 (by omega) rfl hs
  exact ⟨r, t1, t2, ⟨d + 1, fun k hk => g1 k (by omega)⟩, g2, by rw [if_pos h0]; omega⟩
 ·
  refine ⟨⟨#[]⟩, s1, s2, ⟨1, fun k hk => ?_⟩, hs, by rw [if_neg h0]; rfl⟩
  obtain ⟨k, rfl⟩ : ∃ m, k = m + 1 := ⟨k - 1, by omega⟩
  show spec_l01DrawOf.l0 (k + 1) n m _ 0 c s1 s2 = _
  rw [spec_l01DrawOf.l0, if_neg (by omega)]

theorem small_ok {c : List Int} (hc : okC c) {s1 : Int} (hs : okS c s1) (s2 : Int) : ∃ r t1 t2, Ev (fun k => spec_l01Small.f k c s1 s2) (r, t1, t2) ∧ okS c t1 ∧ r.size ≤ 10 := by
 obtain ⟨n, t1, t2, e, h1, h2, h3, _⟩ := next_ok hc hs s2 11
 obtain ⟨v, u1, u2, e2, g1, _⟩ := pick_ok hc h1 t2 [1, 2, 2, 2, 3, 5] (by decide)
 obtain ⟨r, v1, v2, f1, f2, f3⟩ := drawOf_ok hc g1 u2 n v (by omega)
 have h3 := h3 (by omega)
 rw [if_pos h2] at f3
 unfold spec_l01Small.f
 simp only [e, e2, Option.bind_some]
 exact ⟨r, v1, v2, ev_bnd f1 (ev_of rfl), f2, by omega⟩

theorem damage_ok {c : List Int} (hc : okC c) {s1 : Int} (hs : okS c s1) (s2 : Int) (a : ByteArray) (ha : a.size ≤ 100000) : ∃ r t1 t2, spec_l01Damage.f c s1 s2 a = some (r, t1, t2) ∧ okS c t1 ∧ r.size ≤ a.size + 1 := by
 unfold spec_l01Damage.f
 rw [Option.bind_some]
 generalize hy : ([(⟨#[97]⟩ : ByteArray), (⟨#[98]⟩ : ByteArray), (⟨#[99]⟩ : ByteArray), (⟨#[101]⟩ : ByteArray), (⟨#[102]⟩ : ByteArray), (⟨#[65]⟩ : ByteArray), (⟨#[32]⟩ : ByteArray), (⟨#[44]⟩ : ByteArray), (⟨#[48]⟩ : ByteArray), (⟨#[10]⟩ : ByteArray)] : List ByteArray) = y
 have hyl : y.length = 10 := by rw [← hy]; rfl
 have hys : ∀ b ∈ y, b.size = 1 := by
  rw [← hy]; intro b hb
  simp only [List.mem_cons, List.not_mem_nil, or_false] at hb
  rcases hb with rfl | rfl | rfl | rfl | rfl | rfl | rfl | rfl | rfl | rfl <;> rfl
 obtain ⟨n, t1, t2, e, h1, h2, h3, _⟩ := next_ok hc hs s2 (y.length : Int)
 have h3 := h3 (by omega)
 have hb : (rdOf ByteArray.empty y n).size = 1 := by
  obtain ⟨j, rfl⟩ : ∃ j : Nat, n = j := ⟨n.toNat, by omega⟩
  rw [rdOf_nat _ _ j (by omega)]; exact hys _ (List.getElem_mem _)
 rw [e, Option.bind_some]
 dsimp only
 rw [if_pos h2, if_pos h3]
 by_cases ha0 : (a.size : Int) = 0
 ·
  rw [if_pos ha0]
  exact ⟨_, _, _, rfl, h1, by omega⟩
 ·
  rw [if_neg ha0]
  obtain ⟨i, u1, u2, e2, g1, g2, g3, _⟩ := next_ok hc h1 t2 (a.size : Int)
  have g3 := g3 (by omega)
  obtain ⟨q, v1, v2, e3, f1, _⟩ := next_ok hc g1 u2 3
  obtain ⟨j, rfl⟩ : ∃ j : Nat, i = j := ⟨i.toNat, by omega⟩
  have hj : j < a.size := by omega
  have x1 : (a.extract 0 j).size = j := by rw [ByteArray.size_extract]; omega
  have x2 : (a.extract (j + 1) a.size).size = a.size - (j + 1) := by rw [ByteArray.size_extract]; omega
  have x3 : (a.extract j a.size).size = a.size - j := by rw [ByteArray.size_extract]; omega
  simp only [e2, e3, Option.bind_some]
  simp only [wrap_succ (show j < 4611686018427387904 by omega), Int.toNat_natCast]
  by_cases q0 : q = 0
  ·
   rw [if_pos q0, if_pos (by omega), if_pos (by omega), if_pos (by omega), if_pos (by omega), if_pos (by omega), if_pos (by rw [ByteArray.size_append]; omega)]
   exact ⟨_, _, _, rfl, f1, by rw [ByteArray.size_append, ByteArray.size_append]; omega⟩
  ·
   rw [if_neg q0]
   by_cases q1 : q = 1
   ·
    rw [if_pos q1, if_pos (by omega), if_pos (by omega), if_pos (by omega), if_pos (by omega), if_pos (by omega)]
    exact ⟨_, _, _, rfl, f1, by rw [ByteArray.size_append]; omega⟩
   ·
    rw [if_neg q1, if_pos (by omega), if_pos (by omega), if_pos (by omega), if_pos (by rw [ByteArray.size_append]; omega)]
    exact ⟨_, _, _, rfl, f1, by rw [ByteArray.size_append, ByteArray.size_append]; omega⟩

theorem bad_loop (c : List Int) (s1 s2 : Int) (n : Nat) : ∀ (d : Nat) (a : ByteArray), a.size ≤ n → 62 ≤ n → 61 ≤ a.size + d → ∃ r, (∀ k, d < k → spec_l01Bad.l0 k a c s1 s2 = some (r, s1, s2)) ∧ r.size ≤ n := by
 intro d
 induction d with
 | zero =>
  intro a ha hn hd
  refine ⟨a, fun k hk => ?_, ha⟩
  obtain ⟨k, rfl⟩ : ∃ m, k = m + 1 := ⟨k - 1, by omega⟩
  rw [spec_l01Bad.l0, if_neg (by omega)]
 | succ d ih =>
  intro a ha hn hd
  by_cases h : a.size ≤ 60
  ·
   have hsz : (a ++ (⟨#[97, 98]⟩ : ByteArray)).size = a.size + 2 := by rw [ByteArray.size_append]; rfl
   obtain ⟨r, g1, g2⟩ := ih (a ++ (⟨#[97, 98]⟩ : ByteArray)) (by omega) hn (by omega)
   refine ⟨r, fun k hk => ?_, g2⟩
   obtain ⟨k, rfl⟩ : ∃ m, k = m + 1 := ⟨k - 1, by omega⟩
   rw [spec_l01Bad.l0, if_pos (by omega), if_pos (by omega)]
   exact g1 k (by omega)
  ·
   refine ⟨a, fun k hk => ?_, ha⟩
   obtain ⟨k, rfl⟩ : ∃ m, k = m + 1 := ⟨k - 1, by omega⟩
   rw [spec_l01Bad.l0, if_neg (by omega)]
theorem bad_ex (c : List Int) (s1 s2 : Int) (a : ByteArray) (ha : a.size ≤ 1000) : ∃ r, Ev (fun k => spec_l01Bad.l0 k a c s1 s2) (r, s1, s2) ∧ r.size ≤ 100000 := by
 obtain ⟨r, g1, g2⟩ := bad_loop c s1 s2 1000 61 a ha (by omega) (by omega)
 exact ⟨r, ⟨62, fun k hk => g1 k (by omega)⟩, by omega⟩
theorem bad_ok {c : List Int} (hc : okC c) {s1 : Int} (hs : okS c s1) (s2 : Int) (a : ByteArray) (ha : a.size ≤ 1000) : ∃ r t1 t2, Ev (fun k => spec_l01Bad.f k c s1 s2 a) (r, t1, t2) ∧ okS c t1 ∧ r.size ≤ 100000 := by
 obtain ⟨n, t1, t2, e, h1, _⟩ := next_ok hc hs s2 50
 unfold spec_l01Bad.f
 simp only [e, Option.bind_some]
 by_cases n0 : n = 0
 ·
  simp only [n0, if_true, show a.size + 1 ≤ 9223372036854775807 by omega]
  exact ⟨_, _, _, ev_of rfl, h1, by rw [ByteArray.size_append]; show a.size + 1 ≤ 100000; omega⟩
 ·
  by_cases n1 : n = 1
  ·
   obtain ⟨r, u1, u2, e2, g1, g2⟩ := damage_ok hc h1 t2 a (by omega)
   simp only [n1, if_true, e2, Option.bind_some, show ¬ ((1 : Int) = 0) by omega, if_false]
   exact ⟨_, _, _, ev_of rfl, g1, by omega⟩
  ·
   by_cases n2 : n = 2
   ·
    obtain ⟨r, g1, g2⟩ := bad_ex c t1 t2 a ha
    simp only [n2, if_true, show ¬ ((2 : Int) = 0) by omega, show ¬ ((2 : Int) = 1) by omega, if_false]
    exact ⟨r, t1, t2, g1, h1, g2⟩
   ·
    simp only [n0, n1, n2, if_false]
    exact ⟨_, _, _, ev_of rfl, h1, by omega⟩

end Go.Proofs.YtcfphjjdbccnoaaGreat.PF
