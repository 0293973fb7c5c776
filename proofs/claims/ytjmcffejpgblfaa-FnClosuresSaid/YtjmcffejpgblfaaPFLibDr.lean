/- The reference's draws: each returns, and what it returns is not long. -/
import Derived.Test.YtjmcffejpgblfaaPFLibW
import Derived.Laws.BitsLemmas
import Derived.Test.YtjmcffejpgblfaaPFx0
import Derived.Test.YtjmcffejpgblfaaPFx1
import Derived.Test.YtjmcffejpgblfaaPFx2
import Derived.Test.YtjmcffejpgblfaaPFx3
import Derived.Test.YtjmcffejpgblfaaPFx5
namespace Go.Proofs.Ytjmcffejpgblfaa.PF
open Go.RowKit Go.Proofs.YtjmcffejpgblfaaW.PrintWords Go.Proofs.YtjmcffejpgblfaaW.PrintLast Go.Proofs.YtjmcffejpgblfaaW.PrintMore
set_option linter.unusedVariables false
set_option linter.unusedSimpArgs false
set_option maxRecDepth 20000

/-- A code, and a place in it. -/
def okC (c : List Int) : Prop := c.length ≤ 4096 ∧ ∀ x ∈ c, 0 ≤ x ∧ x ≤ 255
def okS (c : List Int) (s : Int) : Prop := 0 ≤ s ∧ s ≤ (c.length : Int)

theorem u64_rng (y : Int) : 0 ≤ IntKind.u64.wrap y ∧ IntKind.u64.wrap y < 18446744073709551616 := by
 simp only [IntKind.wrap]
 first | omega | (simp [IntKind.bits, IntKind.signed]; omega)
theorem u64_id (n : Int) (h0 : 0 ≤ n) (h1 : n < 2 ^ 64) : IntKind.u64.wrap n = n := by
 have h2 : n < 18446744073709551616 := h1
 simp only [IntKind.wrap]
 first | omega | (simp [IntKind.bits, IntKind.signed]; omega)
theorem mask24 (y : Int) : ∃ v : Int, Go.bits .and .u64 (IntKind.u64.wrap y / 8589934592) 16777215 = v ∧ 0 ≤ v ∧ v < 16777216 := by
 obtain ⟨h0, h1⟩ := u64_rng y
 have e64 : (2 : Int) ^ 64 = 18446744073709551616 := by decide
 have h := bits_mask .u64 64 (by decide) u64_id 24 (by decide) (IntKind.u64.wrap y / 8589934592) (by omega) (by rw [e64]; omega)
 have e : ((2 : Int) ^ 24 - 1) = 16777215 := by decide
 have e2 : ((2 : Int) ^ 24) = 16777216 := by decide
 rw [e, e2] at h
 exact ⟨_, h, by omega, by omega⟩
theorem rd_mem (l : List Int) (i : Int) (h0 : 0 ≤ i) (h1 : i < (l.length : Int)) : rd l i ∈ l := by
 obtain ⟨n, rfl⟩ : ∃ n : Nat, i = n := ⟨i.toNat, by omega⟩
 rw [rd_nat l n (by omega)]; exact List.getElem_mem _

theorem next_ok {c : List Int} (hc : okC c) {s1 : Int} (hs : okS c s1) (s2 a : Int) : ∃ n t1 t2, spec_l01Next.f c s1 s2 a = some (n, t1, t2) ∧ okS c t1 ∧ 0 ≤ n ∧ (1 ≤ a → n < a) ∧ (a < 1 → n = 0) := by
 unfold spec_l01Next.f
 by_cases ha : a < 1
 ·
  rw [if_pos ha]
  exact ⟨_, _, _, rfl, hs, by omega, by omega, fun _ => rfl⟩
 ·
  rw [if_neg ha]
  obtain ⟨v, e, h0, h1⟩ := mask24 ((IntKind.u64.wrap (s2 * 6364136223846793005)) + 1442695040888963407)
  rw [e]
  have hv : wrap64 v = v := wrap_id (by omega) (by omega)
  by_cases h2 : s1 < (c.length : Int)
  ·
   obtain ⟨r0, r1⟩ := hc.2 _ (rd_mem c s1 hs.1 h2)
   have hr : wrap64 (rd c s1) = rd c s1 := wrap_id (by omega) (by omega)
   have hw : wrap64 (v + rd c s1) = v + rd c s1 := wrap_id (by omega) (by omega)
   have hl := hc.1
   rw [if_pos h2, if_pos hs.1, if_neg (by omega), hv, hr, hw]
   refine ⟨_, _, _, rfl, ?_, Int.tmod_nonneg _ (by omega), fun _ => Int.tmod_lt_of_pos _ (by omega), by omega⟩
   rw [wrap_id (by have := hs.1; omega) (by omega)]
   exact ⟨by have := hs.1; omega, by omega⟩
  ·
   rw [if_neg h2, if_neg (by omega), hv]
   exact ⟨_, _, _, rfl, hs, Int.tmod_nonneg _ (by omega), fun _ => Int.tmod_lt_of_pos _ (by omega), by omega⟩

theorem pick_ok {c : List Int} (hc : okC c) {s1 : Int} (hs : okS c s1) (s2 : Int) (l : List Int) (hl : 0 < l.length) : ∃ v t1 t2, spec_l01Pick.f c s1 s2 l = some (v, t1, t2) ∧ okS c t1 ∧ v ∈ l := by
 unfold spec_l01Pick.f
 obtain ⟨n, t1, t2, e, h1, h2, h3, _⟩ := next_ok hc hs s2 (l.length : Int)
 have h3 := h3 (by omega)
 rw [e, Option.bind_some, if_pos h2, if_pos h3]
 exact ⟨_, _, _, rfl, h1, rd_mem l n h2 h3⟩

theorem letter_sz (x : Int) : (strOfNums [x]).size = 1 := by simp [strOfNums, ByteArray.size]
theorem drawOf_loop {c : List Int} (hc : okC c) (m n : Int) (hn : n ≤ 1000) : ∀ (d i : Nat) (acc : ByteArray) (s1 s2 : Int), (i : Int) + d = n → acc.size = i → okS c s1 →
  ∃ r t1 t2, (∀ k, d < k → spec_l01DrawOf.l0 k n m acc (i : Int) c s1 s2 = some (r, t1, t2)) ∧ okS c t1 ∧ r.size = i + d := by
 intro d
 induction d with
 | zero =>
  intro i acc s1 s2 hi ha hs
  refine ⟨acc, s1, s2, fun k hk => ?_, hs, by omega⟩
  obtain ⟨k, rfl⟩ : ∃ m, k = m + 1 := ⟨k - 1, by omega⟩
  rw [spec_l01DrawOf.l0, if_neg (by omega)]
 | succ d ih =>
  intro i acc s1 s2 hi ha hs
  obtain ⟨v, t1, t2, e, h1, _⟩ := next_ok hc hs s2 m
  have hsz := letter_sz ((wrap64 (97 + v)) % 256)
  obtain ⟨r, u1, u2, g1, g2, g3⟩ := ih (i + 1) (acc ++ strOfNums [(wrap64 (97 + v)) % 256]) t1 t2 (by omega) (by rw [ByteArray.size_append, hsz]; omega) h1
  refine ⟨r, u1, u2, fun k hk => ?_, g2, by omega⟩
  obtain ⟨k, rfl⟩ : ∃ m, k = m + 1 := ⟨k - 1, by omega⟩
  rw [spec_l01DrawOf.l0, if_pos (by omega), e, Option.bind_some]
  simp only [spec_l01Letter.f, Option.bind_some]
  rw [if_pos (by rw [hsz]; omega), wrap_succ (by omega)]
  exact g1 k (by omega)
theorem drawOf_ok {c : List Int} (hc : okC c) {s1 : Int} (hs : okS c s1) (s2 n m : Int) (hn : n ≤ 1000) : ∃ r t1 t2, Ev (fun k => spec_l01DrawOf.f k c s1 s2 n m) (r, t1, t2) ∧ okS c t1 ∧ (r.size : Int) = (if 0 ≤ n then n else 0) := by
 by_cases h0 : 0 ≤ n
 ·
  obtain ⟨d, rfl⟩ : ∃ d : Nat, n = d := ⟨n.toNat, by omega⟩
  obtain ⟨r, t1, t2, g1, g2, g3⟩ := drawOf_loop hc m (d : Int) hn d 0 (⟨#[]⟩ : ByteArray) s1 s2 (by omega) rfl hs
  exact ⟨r, t1, t2, ⟨d + 1, fun k hk => g1 k (by omega)⟩, g2, by rw [if_pos h0]; omega⟩
 ·
  refine ⟨⟨#[]⟩, s1, s2, ⟨1, fun k hk => ?_⟩, hs, by rw [if_neg h0]; rfl⟩
  obtain ⟨k, rfl⟩ : ∃ m, k = m + 1 := ⟨k - 1, by omega⟩
  show spec_l01DrawOf.l0 (k + 1) n m _ 0 c s1 s2 = _
  rw [spec_l01DrawOf.l0, if_neg (by omega)]

theorem small_ok {c : List Int} (hc : okC c) {s1 : Int} (hs : okS c s1) (s2 : Int) : ∃ r t1 t2, Ev (fun k => spec_l01Small.f k c s1 s2) (r, t1, t2) ∧ okS c t1 ∧ r.size ≤ 10 := by
 obtain ⟨n, t1, t2, e, h1, h2, h3, _⟩ := next_ok hc hs s2 11
 obtain ⟨v, u1, u2, e2, g1, _⟩ := pick_ok hc h1 t2 [1, 2, 2, 2, 3, 5] (by decide)
 obtain ⟨r, v1, v2, f1, f2, f3⟩ := drawOf_ok hc g1 u2 n v (by omega)
 have h3 := h3 (by omega)
 rw [if_pos h2] at f3
 unfold spec_l01Small.f
 simp only [e, e2, Option.bind_some]
 exact ⟨r, v1, v2, ev_bnd f1 (ev_of rfl), f2, by omega⟩

theorem damage_ok {c : List Int} (hc : okC c) {s1 : Int} (hs : okS c s1) (s2 : Int) (a : ByteArray) (ha : a.size ≤ 100000) : ∃ r t1 t2, spec_l01Damage.f c s1 s2 a = some (r, t1, t2) ∧ okS c t1 ∧ r.size ≤ a.size + 1 := by
 unfold spec_l01Damage.f
 rw [Option.bind_some]
 generalize hy : ([(⟨#[97]⟩ : ByteArray), (⟨#[98]⟩ : ByteArray), (⟨#[99]⟩ : ByteArray), (⟨#[101]⟩ : ByteArray), (⟨#[102]⟩ : ByteArray), (⟨#[65]⟩ : ByteArray), (⟨#[32]⟩ : ByteArray), (⟨#[44]⟩ : ByteArray), (⟨#[48]⟩ : ByteArray), (⟨#[10]⟩ : ByteArray)] : List ByteArray) = y
 have hyl : y.length = 10 := by rw [← hy]; rfl
 have hys : ∀ b ∈ y, b.size = 1 := by
  rw [← hy]; intro b hb
  simp only [List.mem_cons, List.not_mem_nil, or_false] at hb
  rcases hb with rfl | rfl | rfl | rfl | rfl | rfl | rfl | rfl | rfl | rfl <;> rfl
 obtain ⟨n, t1, t2, e, h1, h2, h3, _⟩ := next_ok hc hs s2 (y.length : Int)
 have h3 := h3 (by omega)
 have hb : (rdOf ByteArray.empty y n).size = 1 := by
  obtain ⟨j, rfl⟩ : ∃ j : Nat, n = j := ⟨n.toNat, by omega⟩
  rw [rdOf_nat _ _ j (by omega)]; exact hys _ (List.getElem_mem _)
 rw [e, Option.bind_some]
 dsimp only
 rw [if_pos h2, if_pos h3]
 by_cases ha0 : (a.size : Int) = 0
 ·
  rw [if_pos ha0]
  exact ⟨_, _, _, rfl, h1, by omega⟩
 ·
  rw [if_neg ha0]
  obtain ⟨i, u1, u2, e2, g1, g2, g3, _⟩ := next_ok hc h1 t2 (a.size : Int)
  have g3 := g3 (by omega)
  obtain ⟨q, v1, v2, e3, f1, _⟩ := next_ok hc g1 u2 3
  obtain ⟨j, rfl⟩ : ∃ j : Nat, i = j := ⟨i.toNat, by omega⟩
  have hj : j < a.size := by omega
  have x1 : (a.extract 0 j).size = j := by rw [ByteArray.size_extract]; omega
  have x2 : (a.extract (j + 1) a.size).size = a.size - (j + 1) := by rw [ByteArray.size_extract]; omega
  have x3 : (a.extract j a.size).size = a.size - j := by rw [ByteArray.size_extract]; omega
  simp only [e2, e3, Option.bind_some]
  simp only [wrap_succ (show j < 4611686018427387904 by omega), Int.toNat_natCast]
  by_cases q0 : q = 0
  ·
   rw [if_pos q0, if_pos (by omega), if_pos (by omega), if_pos (by omega), if_pos (by omega), if_pos (by omega), if_pos (by rw [ByteArray.size_append]; omega)]
   exact ⟨_, _, _, rfl, f1, by rw [ByteArray.size_append, ByteArray.size_append]; omega⟩
  ·
   rw [if_neg q0]
   by_cases q1 : q = 1
   ·
    rw [if_pos q1, if_pos (by omega), if_pos (by omega), if_pos (by omega), if_pos (by omega), if_pos (by omega)]
    exact ⟨_, _, _, rfl, f1, by rw [ByteArray.size_append]; omega⟩
   ·
    rw [if_neg q1, if_pos (by omega), if_pos (by omega), if_pos (by omega), if_pos (by rw [ByteArray.size_append]; omega)]
    exact ⟨_, _, _, rfl, f1, by rw [ByteArray.size_append, ByteArray.size_append]; omega⟩

theorem bad_loop (c : List Int) (s1 s2 : Int) (n : Nat) : ∀ (d : Nat) (a : ByteArray), a.size ≤ n → 62 ≤ n → 61 ≤ a.size + d → ∃ r, (∀ k, d < k → spec_l01Bad.l0 k a c s1 s2 = some (r, s1, s2)) ∧ r.size ≤ n := by
 intro d
 induction d with
 | zero =>
  intro a ha hn hd
  refine ⟨a, fun k hk => ?_, ha⟩
  obtain ⟨k, rfl⟩ : ∃ m, k = m + 1 := ⟨k - 1, by omega⟩
  rw [spec_l01Bad.l0, if_neg (by omega)]
 | succ d ih =>
  intro a ha hn hd
  by_cases h : a.size ≤ 60
  ·
   have hsz : (a ++ (⟨#[97, 98]⟩ : ByteArray)).size = a.size + 2 := by rw [ByteArray.size_append]; rfl
   obtain ⟨r, g1, g2⟩ := ih (a ++ (⟨#[97, 98]⟩ : ByteArray)) (by omega) hn (by omega)
   refine ⟨r, fun k hk => ?_, g2⟩
   obtain ⟨k, rfl⟩ : ∃ m, k = m + 1 := ⟨k - 1, by omega⟩
   rw [spec_l01Bad.l0, if_pos (by omega), if_pos (by omega)]
   exact g1 k (by omega)
  ·
   refine ⟨a, fun k hk => ?_, ha⟩
   obtain ⟨k, rfl⟩ : ∃ m, k = m + 1 := ⟨k - 1, by omega⟩
   rw [spec_l01Bad.l0, if_neg (by omega)]
theorem bad_ex (c : List Int) (s1 s2 : Int) (a : ByteArray) (ha : a.size ≤ 1000) : ∃ r, Ev (fun k => spec_l01Bad.l0 k a c s1 s2) (r, s1, s2) ∧ r.size ≤ 100000 := by
 obtain ⟨r, g1, g2⟩ := bad_loop c s1 s2 1000 61 a ha (by omega) (by omega)
 exact ⟨r, ⟨62, fun k hk => g1 k (by omega)⟩, by omega⟩
theorem bad_ok {c : List Int} (hc : okC c) {s1 : Int} (hs : okS c s1) (s2 : Int) (a : ByteArray) (ha : a.size ≤ 1000) : ∃ r t1 t2, Ev (fun k => spec_l01Bad.f k c s1 s2 a) (r, t1, t2) ∧ okS c t1 ∧ r.size ≤ 100000 := by
 obtain ⟨n, t1, t2, e, h1, _⟩ := next_ok hc hs s2 50
 unfold spec_l01Bad.f
 simp only [e, Option.bind_some]
 by_cases n0 : n = 0
 ·
  simp only [n0, if_true, show a.size + 1 ≤ 9223372036854775807 by omega]
  exact ⟨_, _, _, ev_of rfl, h1, by rw [ByteArray.size_append]; show a.size + 1 ≤ 100000; omega⟩
 ·
  by_cases n1 : n = 1
  ·
   obtain ⟨r, u1, u2, e2, g1, g2⟩ := damage_ok hc h1 t2 a (by omega)
   simp only [n1, if_true, e2, Option.bind_some, show ¬ ((1 : Int) = 0) by omega, if_false]
   exact ⟨_, _, _, ev_of rfl, g1, by omega⟩
  ·
   by_cases n2 : n = 2
   ·
    obtain ⟨r, g1, g2⟩ := bad_ex c t1 t2 a ha
    simp only [n2, if_true, show ¬ ((2 : Int) = 0) by omega, show ¬ ((2 : Int) = 1) by omega, if_false]
    exact ⟨r, t1, t2, g1, h1, g2⟩
   ·
    simp only [n0, n1, n2, if_false]
    exact ⟨_, _, _, ev_of rfl, h1, by omega⟩

end Go.Proofs.Ytjmcffejpgblfaa.PF

namespace Go.Proofs.Ytjmcffejpgblfaa.PF
open Go.RowKit Go.Proofs.YtjmcffejpgblfaaW.PrintWords Go.Proofs.YtjmcffejpgblfaaW.PrintLast Go.Proofs.YtjmcffejpgblfaaW.PrintMore
set_option linter.unusedVariables false
set_option linter.unusedSimpArgs false
set_option maxRecDepth 20000

/-! ### words with names -/
def okL (m : Nat) (x : ByteArray) : Prop := ∀ v ∈ bytesOf x, 97 ≤ v ∧ v < 97 + (m : Int)
structure ImgOk (l : List ByteArray) : Prop where
 pos : 0 < l.length
 all : ∀ b ∈ l, 1 ≤ b.size ∧ b.size ≤ 3 ∧ okL l.length b
 two : 2 ≤ (l.getD 0 ByteArray.empty).size
 head : rd (bytesOf (l.getD 0 ByteArray.empty)) 0 = 97
theorem bytesOf_append (a b : ByteArray) : bytesOf (a ++ b) = bytesOf a ++ bytesOf b := by simp [bytesOf, ByteArray.data_append]
theorem okL_append {m : Nat} {a b : ByteArray} (ha : okL m a) (hb : okL m b) : okL m (a ++ b) := by
 intro v hv
 rw [bytesOf_append, List.mem_append] at hv
 exact hv.elim (ha v) (hb v)
theorem named_step {l : List ByteArray} (hl : ImgOk l) (hl4 : l.length ≤ 4) (n : Int) (x acc : ByteArray) (hx : okL l.length x) (hxs : x.size ≤ 1000) (has : acc.size ≤ 10000) (i : Nat) (hi : i < x.size) :
  ∃ (j : Nat) (hj : j < l.length), (bt x (i : Int) = 97 → j = 0) ∧ ∀ k, spec_l01Named.l1 (k + 1) n l x acc (i : Int) = spec_l01Named.l1 k n l x (acc ++ l[j]) ((i + 1 : Nat) : Int) := by
 have hb : bt x (i : Int) ∈ bytesOf x := by
  rw [← rd_bytesOf]; exact rd_mem _ _ (by omega) (by rw [bytesOf_length]; omega)
 obtain ⟨h1, h2⟩ := hx _ hb
 have hw : wrap64 (wrap64 (bt x (i : Int)) - 97) = bt x (i : Int) - 97 := by
  rw [show wrap64 (bt x (i : Int)) = bt x (i : Int) from wrap_id (by omega) (by omega), wrap_id (by omega) (by omega)]
 obtain ⟨j, hj⟩ : ∃ j : Nat, bt x (i : Int) - 97 = j := ⟨(bt x (i : Int) - 97).toNat, by omega⟩
 have hjl : j < l.length := by omega
 refine ⟨j, hjl, fun h => by omega, fun k => ?_⟩
 have hs := hl.all _ (List.getElem_mem hjl)
 rw [spec_l01Named.l1, if_pos (by omega)]
 unfold spec_l01At.f
 rw [if_pos (by omega), if_pos (by omega), Option.bind_some, hw, hj, if_pos (by omega), if_pos (by omega), rdOf_nat _ _ j hjl, if_pos (by omega), wrap_succ (by omega)]
theorem named_l1 {l : List ByteArray} (hl : ImgOk l) (hl4 : l.length ≤ 4) (n : Int) (x : ByteArray) (hx : okL l.length x) (hxs : x.size ≤ 1000) : ∀ (d i : Nat) (acc : ByteArray), i + d = x.size → okL l.length acc → acc.size ≤ 3 * i →
  ∃ y, (∀ k, spec_l01Named.l1 (k + d + 1) n l x acc (i : Int) = spec_l01Named.l0 k n l y) ∧ okL l.length y ∧ acc.size + d ≤ y.size ∧ y.size ≤ 3 * x.size ∧ ∃ z, bytesOf y = bytesOf acc ++ z := by
 intro d
 induction d with
 | zero =>
  intro i acc hi ha hs
  refine ⟨acc, fun k => ?_, ha, by omega, by omega, [], by simp⟩
  rw [spec_l01Named.l1, if_neg (by omega)]
 | succ d ih =>
  intro i acc hi ha hs
  obtain ⟨j, hj, _, h1⟩ := named_step hl hl4 n x acc hx hxs (by omega) i (by omega)
  obtain ⟨b1, b2, b3⟩ := hl.all _ (List.getElem_mem hj)
  have hsz : (acc ++ l[j]).size = acc.size + l[j].size := ByteArray.size_append
  obtain ⟨y, g1, g2, g3, g4, z, g5⟩ := ih (i + 1) (acc ++ l[j]) (by omega) (okL_append ha b3) (by omega)
  refine ⟨y, fun k => ?_, g2, by omega, g4, bytesOf l[j] ++ z, by rw [g5, bytesOf_append, List.append_assoc]⟩
  rw [show k + (d + 1) + 1 = (k + d + 1) + 1 by omega, h1, g1]
theorem named_l0 {l : List ByteArray} (hl : ImgOk l) (hl4 : l.length ≤ 4) (n : Int) (hn0 : 0 ≤ n) (hn : n ≤ 60) : ∀ (s : Nat) (x : ByteArray), n ≤ (x.size : Int) + s → okL l.length x → 0 < x.size → x.size ≤ 1000 → rd (bytesOf x) 0 = 97 →
  ∃ r, Ev (fun k => spec_l01Named.l0 k n l x) r ∧ r.1.size ≤ 60 := by
 have fin : ∀ x : ByteArray, n ≤ (x.size : Int) → ∃ r, Ev (fun k => spec_l01Named.l0 k n l x) r ∧ r.1.size ≤ 60 := fun x h => by
  refine ⟨(x.extract 0 n.toNat, true), ⟨1, fun k hk => ?_⟩, by show (x.extract 0 n.toNat).size ≤ 60; rw [ByteArray.size_extract]; omega⟩
  obtain ⟨k, rfl⟩ : ∃ m, k = m + 1 := ⟨k - 1, by omega⟩
  show spec_l01Named.l0 (k + 1) n l x = _
  rw [spec_l01Named.l0, if_neg (by omega), if_pos hn0, if_pos h]
 intro s
 induction s with
 | zero => exact fun x h _ _ _ _ => fin x (by omega)
 | succ s ih =>
  intro x h hx h0 hxs hh
  by_cases hlt : (x.size : Int) < n
  ·
   obtain ⟨j, hj, hz, h1⟩ := named_step hl hl4 n x (⟨#[]⟩ : ByteArray) hx hxs (by show 0 ≤ 10000; omega) 0 h0
   have hz := hz (by rw [← rd_bytesOf]; exact hh)
   subst hz
   have e0 : l.getD 0 ByteArray.empty = l[0] := by simp [hj]
   obtain ⟨b1, b2, b3⟩ := hl.all _ (List.getElem_mem hj)
   have b4 := hl.two
   have b5 := hl.head
   rw [e0] at b4 b5
   have hsz : ((⟨#[]⟩ : ByteArray) ++ l[0]).size = l[0].size := by rw [ByteArray.size_append]; show 0 + _ = _; omega
   have hbe : bytesOf ((⟨#[]⟩ : ByteArray) ++ l[0]) = bytesOf l[0] := by rw [bytesOf_append]; rfl
   obtain ⟨y, g1, g2, g3, g4, z, g5⟩ := named_l1 hl hl4 n x hx hxs (x.size - 1) 1 ((⟨#[]⟩ : ByteArray) ++ l[0]) (by omega) (by intro v hv; rw [hbe] at hv; exact b3 v hv) (by omega)
   have hhy : rd (bytesOf y) 0 = 97 := by
    rw [g5, hbe]
    have hl0 : 0 < (bytesOf l[0]).length := by rw [bytesOf_length]; omega
    rw [show (0 : Int) = ((0 : Nat) : Int) from rfl, rd_nat _ _ (by rw [List.length_append]; omega), List.getElem_append_left hl0, ← rd_nat _ _ hl0]; exact b5
   obtain ⟨r, ⟨K, hK⟩, hr⟩ := ih y (by omega) g2 (by omega) (by omega) hhy
   refine ⟨r, ⟨K + x.size + 5, fun k hk => ?_⟩, hr⟩
   obtain ⟨q, rfl⟩ : ∃ q, k = (q + (x.size - 1) + 1 + 1) + 1 := ⟨k - (x.size - 1) - 3, by omega⟩
   show spec_l01Named.l0 _ n l x = some r
   rw [spec_l01Named.l0, if_pos hlt]
   have h1 := h1 (q + (x.size - 1) + 1)
   rw [show ((0 : Nat) : Int) = 0 from rfl] at h1
   rw [h1, g1]
   exact hK q (by omega)
  ·
   exact fin x (by omega)

theorem img1 : ImgOk [(⟨#[97, 98]⟩ : ByteArray), (⟨#[97]⟩ : ByteArray)] := by
 refine ⟨by decide, fun b hb => ?_, by decide, by decide⟩
 simp only [List.mem_cons, List.not_mem_nil, or_false] at hb
 rcases hb with rfl | rfl <;> exact ⟨by decide, by decide, by unfold okL; decide⟩
theorem img2 : ImgOk [(⟨#[97, 98]⟩ : ByteArray), (⟨#[98, 97]⟩ : ByteArray)] := by
 refine ⟨by decide, fun b hb => ?_, by decide, by decide⟩
 simp only [List.mem_cons, List.not_mem_nil, or_false] at hb
 rcases hb with rfl | rfl <;> exact ⟨by decide, by decide, by unfold okL; decide⟩
theorem img3 : ImgOk [(⟨#[97, 98]⟩ : ByteArray), (⟨#[97, 97]⟩ : ByteArray)] := by
 refine ⟨by decide, fun b hb => ?_, by decide, by decide⟩
 simp only [List.mem_cons, List.not_mem_nil, or_false] at hb
 rcases hb with rfl | rfl <;> exact ⟨by decide, by decide, by unfold okL; decide⟩
theorem img4 : ImgOk [(⟨#[97, 98, 99]⟩ : ByteArray), (⟨#[97, 99]⟩ : ByteArray), (⟨#[98]⟩ : ByteArray)] := by
 refine ⟨by decide, fun b hb => ?_, by decide, by decide⟩
 simp only [List.mem_cons, List.not_mem_nil, or_false] at hb
 rcases hb with rfl | rfl | rfl <;> exact ⟨by decide, by decide, by unfold okL; decide⟩
theorem named_ok (a : ByteArray) (n : Int) (hn0 : 0 ≤ n) (hn : n ≤ 60) : ∃ r, Ev (fun k => spec_l01Named.f k a n) r ∧ r.1.size ≤ 60 := by
 have key : ∀ l, ImgOk l → l.length ≤ 4 → ∃ r, Ev (fun k => spec_l01Named.j0 k n l) r ∧ r.1.size ≤ 60 := fun l hl h4 => by
  obtain ⟨r, h1, h2⟩ := named_l0 hl h4 n hn0 hn 60 (⟨#[97]⟩ : ByteArray) (by omega) (by
   intro v hv
   have e : bytesOf (⟨#[97]⟩ : ByteArray) = [97] := by decide
   rw [e, List.mem_singleton] at hv
   have := hl.pos
   omega) (by decide) (by decide) (by decide)
  refine ⟨r, ev_suc ?_, h2⟩
  simp only [spec_l01Named.j0]; exact h1
 unfold spec_l01Named.f
 by_cases c1 : a.toList = ([102, 105, 98, 111, 110, 97, 99, 99, 105] : List UInt8)
 ·
  simp only [c1, if_true]; exact key _ img1 (by decide)
 ·
  simp only [c1, if_false]
  by_cases c2 : a.toList = ([116, 104, 117, 101] : List UInt8)
  ·
   simp only [c2, if_true]; exact key _ img2 (by decide)
  ·
   simp only [c2, if_false]
   by_cases c3 : a.toList = ([100, 111, 117, 98, 108, 105, 110, 103] : List UInt8)
   ·
    simp only [c3, if_true]; exact key _ img3 (by decide)
   ·
    simp only [c3, if_false]
    by_cases c4 : a.toList = ([116, 114, 105, 112, 108, 101] : List UInt8)
    ·
     simp only [c4, if_true]; exact key _ img4 (by decide)
    ·
     simp only [c4, if_false]
     exact ⟨_, ev_of rfl, by decide⟩

/-! ### reversed words -/
theorem sn_size (l : List Int) : (strOfNums l).size = l.length := by unfold strOfNums ByteArray.size; simp
theorem dr_rev (a : ByteArray) (ha : a.size ≤ 1000000) : ∃ r, Ev (fun k => spec_l01Reversed.f k a) r ∧ r.size = a.size := by
 have loop : ∀ (d : Nat) (acc : List Int), d ≤ a.size → acc.length + d = a.size → ∃ r : ByteArray, (∀ k, d < k → spec_l01Reversed.l0 k a acc ((d : Int) - 1) = some r) ∧ r.size = a.size := by
  intro d
  induction d with
  | zero =>
   intro acc hd hl
   refine ⟨strOfNums acc, fun k hk => ?_, by rw [sn_size]; omega⟩
   obtain ⟨k, rfl⟩ : ∃ m, k = m + 1 := ⟨k - 1, by omega⟩
   rw [spec_l01Reversed.l0, if_neg (by omega)]
  | succ d ih =>
   intro acc hd hl
   obtain ⟨r, h1, h2⟩ := ih (acc ++ [bt a (d : Int)]) (by omega) (by simp; omega)
   refine ⟨r, fun k hk => ?_, h2⟩
   obtain ⟨k, rfl⟩ : ∃ m, k = m + 1 := ⟨k - 1, by omega⟩
   have e : ((d + 1 : Nat) : Int) - 1 = (d : Int) := by omega
   rw [e, spec_l01Reversed.l0, if_pos (by omega), if_pos (by omega), if_pos (by omega), if_pos (by omega), wrap_id (by omega) (by omega)]
   exact h1 k (by omega)
 obtain ⟨r, h1, h2⟩ := loop a.size [] (Nat.le_refl _) (by simp)
 refine ⟨r, ⟨a.size + 1, fun k hk => ?_⟩, h2⟩
 show spec_l01Reversed.l0 k a [] (wrap64 ((a.size : Int) - 1)) = some r
 rw [wrap_id (by omega) (by omega)]
 exact h1 k (by omega)

/-! ### words -/
theorem draw_loop {c : List Int} (hc : okC c) (u : ByteArray) (hu : u.size ≤ 100) (s1 s2 : Int) (hs : okS c s1) : ∀ (d : Nat) (acc : ByteArray), d ≤ 1000 → acc.size + d * u.size ≤ 10000 →
  ∃ r t1 t2, (∀ k, d < k → spec_l01Draw.l0 k u acc (d : Int) c s1 s2 = some (r, t1, t2)) ∧ okS c t1 ∧ r.size ≤ acc.size + d * u.size + u.size := by
 intro d
 induction d with
 | zero =>
  intro acc hd ha
  obtain ⟨n, t1, t2, e, h1, h2, h3, h4⟩ := next_ok hc hs s2 (u.size : Int)
  have h3' : n ≤ (u.size : Int) := by
   by_cases g : 1 ≤ (u.size : Int)
   ·
    have := h3 g; omega
   ·
    have := h4 (by omega); omega
  have hsz : (u.extract 0 n.toNat).size ≤ u.size := by rw [ByteArray.size_extract]; omega
  refine ⟨acc ++ u.extract 0 n.toNat, t1, t2, fun k hk => ?_, h1, by rw [ByteArray.size_append]; omega⟩
  obtain ⟨k, rfl⟩ : ∃ m, k = m + 1 := ⟨k - 1, by omega⟩
  rw [spec_l01Draw.l0, if_neg (by omega), e, Option.bind_some]
  dsimp only
  rw [if_pos h2, if_pos h3', if_pos (by omega)]
 | succ d ih =>
  intro acc hd ha
  rw [Nat.succ_mul] at ha
  have hsz : (acc ++ u).size = acc.size + u.size := ByteArray.size_append
  obtain ⟨r, t1, t2, g1, g2, g3⟩ := ih (acc ++ u) (by omega) (by omega)
  refine ⟨r, t1, t2, fun k hk => ?_, g2, by rw [Nat.succ_mul]; omega⟩
  obtain ⟨k, rfl⟩ : ∃ m, k = m + 1 := ⟨k - 1, by omega⟩
  rw [spec_l01Draw.l0, if_pos (by omega), if_pos (by omega), wrap_id (by omega) (by omega), show (((d + 1 : Nat) : Int) - 1) = (d : Int) by omega]
  exact g1 k (by omega)

theorem draw_ok {c : List Int} (hc : okC c) {s1 : Int} (hs : okS c s1) (s2 : Int) : ∃ r t1 t2, Ev (fun k => spec_l01Draw.f k c s1 s2) (r, t1, t2) ∧ okS c t1 ∧ r.size ≤ 100 := by
 unfold spec_l01Draw.f
 obtain ⟨n, t1, t2, e, h1, _⟩ := next_ok hc hs s2 6
 simp only [e, Option.bind_some]
 by_cases n0 : n = 0
 ·
  simp only [n0, if_true, spec_l01Names.f, Option.bind_some]
  obtain ⟨i, u1, u2, e2, g1, g2, g3, _⟩ := next_ok hc h1 t2 4
  have g3 := g3 (by omega)
  obtain ⟨v, v1, v2, e3, f1, f2⟩ := pick_ok hc g1 u2 [12, 30, 61] (by decide)
  have hv : 1 ≤ v ∧ v ≤ 61 := by
   simp only [List.mem_cons, List.not_mem_nil, or_false] at f2
   omega
  obtain ⟨j, w1, w2, e4, k1, k2, k3, _⟩ := next_ok hc f1 v2 v
  have k3 := k3 hv.1
  obtain ⟨r, q1, q2⟩ := named_ok (rdOf ByteArray.empty ([(⟨#[102, 105, 98, 111, 110, 97, 99, 99, 105]⟩ : ByteArray), (⟨#[116, 104, 117, 101]⟩ : ByteArray), (⟨#[100, 111, 117, 98, 108, 105, 110, 103]⟩ : ByteArray), (⟨#[116, 114, 105, 112, 108, 101]⟩ : ByteArray)] : List ByteArray) i) j k2 (by omega)
  have hlen : i < (([(⟨#[102, 105, 98, 111, 110, 97, 99, 99, 105]⟩ : ByteArray), (⟨#[116, 104, 117, 101]⟩ : ByteArray), (⟨#[100, 111, 117, 98, 108, 105, 110, 103]⟩ : ByteArray), (⟨#[116, 114, 105, 112, 108, 101]⟩ : ByteArray)] : List ByteArray).length : Int) := g3
  simp only [e2, Option.bind_some, g2, hlen, if_true, e3, e4]
  exact ⟨r.1, w1, w2, ev_bnd q1 (ev_of rfl), k1, by omega⟩
 ·
  simp only [n0, if_false]
  by_cases n1 : n = 1
  ·
   simp only [n1, if_true]
   obtain ⟨i, u1, u2, e2, g1, g2, g3, _⟩ := next_ok hc h1 t2 6
   have g3 := g3 (by omega)
   obtain ⟨v, v1, v2, e3, f1, _⟩ := pick_ok hc g1 u2 [2, 2, 3] (by decide)
   have hw : wrap64 (1 + i) = 1 + i := wrap_id (by omega) (by omega)
   obtain ⟨r, w1, w2, q1, q2, q3⟩ := drawOf_ok hc f1 v2 (1 + i) v (by omega)
   rw [if_pos (by omega)] at q3
   obtain ⟨j, x1, x2, e4, k1, k2, k3, _⟩ := next_ok hc q2 w2 4
   have k3 := k3 (by omega)
   obtain ⟨d, hd⟩ : ∃ d : Nat, 1 + j = d := ⟨(1 + j).toNat, by omega⟩
   have hw2 : wrap64 (1 + j) = (d : Int) := by rw [wrap_id (by omega) (by omega)]; exact hd
   have hmul : d * r.size ≤ 4 * 6 := Nat.mul_le_mul (by omega) (by omega)
   obtain ⟨z, y1, y2, p1, p2, p3⟩ := draw_loop hc r (by omega) x1 x2 k1 d (⟨#[]⟩ : ByteArray) (by omega) (by show 0 + _ ≤ _; omega)
   have p3 : z.size ≤ 0 + d * r.size + r.size := p3
   simp only [e2, e3, hw, Option.bind_some]
   refine ⟨z, y1, y2, ev_bnd q1 ?_, p2, by omega⟩
   simp only [e4, Option.bind_some, hw2]
   exact ⟨d + 1, fun k hk => p1 k (by omega)⟩
  ·
   simp only [n1, if_false]
   by_cases n2 : n = 2
   ·
    simp only [n2, if_true]
    obtain ⟨i, u1, u2, e2, g1, g2, g3, _⟩ := next_ok hc h1 t2 12
    have g3 := g3 (by omega)
    obtain ⟨v, v1, v2, e3, f1, _⟩ := pick_ok hc g1 u2 [2, 2, 3] (by decide)
    obtain ⟨r, w1, w2, q1, q2, q3⟩ := drawOf_ok hc f1 v2 i v (by omega)
    rw [if_pos g2] at q3
    obtain ⟨j, x1, x2, e4, k1, k2, k3, _⟩ := next_ok hc q2 w2 2
    have k3 := k3 (by omega)
    obtain ⟨z, y1, y2, p1, p2, p3⟩ := drawOf_ok hc k1 x2 j 2 (by omega)
    rw [if_pos k2] at p3
    obtain ⟨rr, o1, o2⟩ := dr_rev r (by omega)
    have hsz : (r ++ z).size = r.size + z.size := ByteArray.size_append
    have hsz2 : (r ++ z ++ rr).size = r.size + z.size + rr.size := by rw [ByteArray.size_append, hsz]
    simp only [e2, e3, Option.bind_some]
    refine ⟨r ++ z ++ rr, y1, y2, ev_bnd q1 ?_, p2, by omega⟩
    simp only [e4, Option.bind_some]
    refine ev_bnd p1 ?_
    simp only [show r.size + z.size ≤ 9223372036854775807 by omega, if_true]
    refine ev_bnd o1 ?_
    simp only [show (r ++ z).size + rr.size ≤ 9223372036854775807 by omega, if_true]
    exact ev_of rfl
   ·
    simp only [n2, if_false]
    by_cases n3 : n = 3
    ·
     simp only [n3, if_true]
     obtain ⟨v, v1, v2, e3, f1, f2⟩ := pick_ok hc h1 t2 [20, 40, 61] (by decide)
     have hv : 1 ≤ v ∧ v ≤ 61 := by
      simp only [List.mem_cons, List.not_mem_nil, or_false] at f2
      omega
     obtain ⟨j, w1, w2, e4, k1, k2, k3, _⟩ := next_ok hc f1 v2 v
     have k3 := k3 hv.1
     obtain ⟨q, x1, x2, e5, o1, _⟩ := pick_ok hc k1 w2 [1, 2, 2, 3, 3, 4, 5] (by decide)
     obtain ⟨z, y1, y2, p1, p2, p3⟩ := drawOf_ok hc o1 x2 j q (by omega)
     rw [if_pos k2] at p3
     simp only [e3, e4, e5, Option.bind_some]
     exact ⟨z, y1, y2, ev_bnd p1 (ev_of rfl), p2, by omega⟩
    ·
     simp only [n3, if_false]
     obtain ⟨r, w1, w2, q1, q2, q3⟩ := small_ok hc h1 t2
     exact ⟨r, w1, w2, ev_bnd q1 (ev_of rfl), q2, by omega⟩

theorem from_ok {c : List Int} (hc : okC c) : ∃ s2, Ev (fun k => spec_l01From.f k c) (c, 0, s2) := by
 have loop : ∀ (d i : Nat) (s : Int), i + d = c.length → ∃ s', ∀ k, d < k → spec_l01From.l0 k c (i : Int) c 0 s = some (c, 0, s') := by
  intro d
  induction d with
  | zero =>
   intro i s hi
   refine ⟨s, fun k hk => ?_⟩
   obtain ⟨k, rfl⟩ : ∃ m, k = m + 1 := ⟨k - 1, by omega⟩
   rw [spec_l01From.l0, if_neg (by omega)]
  | succ d ih =>
   intro i s hi
   have hl := hc.1
   obtain ⟨s', h⟩ := ih (i + 1) (IntKind.u64.wrap ((IntKind.u64.wrap ((IntKind.u64.wrap (s * 1099511628211)) + (IntKind.u64.wrap (rd c (i : Int))))) + 211)) (by omega)
   refine ⟨s', fun k hk => ?_⟩
   obtain ⟨k, rfl⟩ : ∃ m, k = m + 1 := ⟨k - 1, by omega⟩
   rw [spec_l01From.l0, if_pos (by omega), if_pos (by omega), if_pos (by omega), wrap_succ (by omega)]
   exact h k (by omega)
 obtain ⟨s', h⟩ := loop c.length 0 (IntKind.u64.wrap (13711 + (IntKind.u64.wrap ((c.length : Int))))) (by omega)
 exact ⟨s', c.length + 1, fun k hk => h k (by omega)⟩
theorem okS0 (c : List Int) : okS c 0 := ⟨by omega, by omega⟩

end Go.Proofs.Ytjmcffejpgblfaa.PF

namespace Go.Proofs.Ytjmcffejpgblfaa.PF
open Go.RowKit Go.Proofs.YtjmcffejpgblfaaW.PrintWords Go.Proofs.YtjmcffejpgblfaaW.PrintLast Go.Proofs.YtjmcffejpgblfaaW.PrintMore
set_option linter.unusedVariables false
set_option linter.unusedSimpArgs false
set_option maxRecDepth 20000

theorem spoil_ok {c : List Int} (hc : okC c) {s1 : Int} (hs : okS c s1) (s2 : Int) : ∃ r t1 t2, Ev (fun k => spec_l01Spoil.f k c s1 s2) (r, t1, t2) ∧ okS c t1 ∧ r.size ≤ 100000 := by
 obtain ⟨w, u1, u2, g1, g2, g3⟩ := draw_ok hc hs s2
 obtain ⟨a, v1, v2, p1, p2, p3⟩ := bad_ok hc g2 u2 w (by omega)
 refine ⟨a, v1, v2, ?_, p2, p3⟩
 unfold spec_l01Spoil.f
 exact ev_bnd g1 (ev_bnd p1 (ev_of rfl))
theorem clos_ok (w : ByteArray) (h0 : 0 < w.size) (hw : w.size ≤ 100) : ∃ v, Ev (fun k => spec_l04Closure.f k w) v ∧ v.size ≤ 2 * w.size := by
 obtain ⟨p, hp⟩ := endP_ex w w.size (by omega) (by omega)
 have hle := hp.le
 have hx : (w.extract 0 p).size = p := by rw [ByteArray.size_extract]; omega
 obtain ⟨r, r1, r2⟩ := dr_rev (w.extract 0 p) (by omega)
 have e1 : wrap64 ((w.size : Int) - ((w.size - p : Nat) : Int)) = (p : Int) := by rw [wrap_id (by omega) (by omega)]; omega
 have hne : ¬ w.toList = ([] : List UInt8) := fun e => by have := tl_len w; rw [e] at this; simp at this; omega
 refine ⟨w ++ r, ?_, by rw [ByteArray.size_append]; omega⟩
 unfold spec_l04Closure.f
 simp only [hne, if_false]
 refine ev_bnd (a := ((w.size - p : Nat) : Int)) ⟨5000, fun k hk => l04End_loop w (by omega) p hle hp.pal hp.no p k 0 (by omega) (by omega)⟩ ?_
 simp only [e1, show (0 : Int) ≤ (p : Int) by omega, show (p : Int) ≤ (w.size : Int) by omega, if_true, Int.toNat_natCast]
 refine ev_bnd r1 ?_
 simp only [show w.size + r.size ≤ 9223372036854775807 by omega, if_true]
 exact ev_of rfl
theorem d4_l0 {c : List Int} (hc : okC c) {s1 : Int} (hs : okS c s1) (s2 : Int) (l : ByteArray) (hl : l.size ≤ 20) : ∀ (d i : Nat) (o : ByteArray), i + d = l.size → o.size ≤ 50 → ∃ r t1 t2, Ev (fun k => spec_l04Draw.l0 k l o (i : Int) c s1 s2) (r, t1, t2) ∧ okS c t1 ∧ r.size ≤ 100000 := by
 intro d
 induction d with
 | zero =>
  intro i o hi ho
  obtain ⟨a, a1, a2, p1, p2, p3⟩ := bad_ok hc hs s2 o (by omega)
  refine ⟨a, a1, a2, ev_suc ?_, p2, p3⟩
  simp only [spec_l04Draw.l0, show ¬ ((i : Int) < (l.size : Int)) by omega, if_false]
  exact ev_bnd p1 (ev_of rfl)
 | succ d ih =>
  intro i o hi ho
  by_cases g : (o.size : Int) < 20
  ·
   have hx : (l.extract i (i + 1)).size = 1 := by rw [ByteArray.size_extract]; omega
   have hz : (o ++ l.extract i (i + 1)).size = o.size + 1 := by rw [ByteArray.size_append, hx]
   obtain ⟨v, v1, v2⟩ := clos_ok (o ++ l.extract i (i + 1)) (by omega) (by omega)
   obtain ⟨r, t1, t2, q1, q2, q3⟩ := ih (i + 1) v (by omega) (by omega)
   refine ⟨r, t1, t2, ev_suc ?_, q2, q3⟩
   simp only [spec_l04Draw.l0, show ((i : Int) < (l.size : Int)) by omega, g, if_true, wrap_succ (i := i) (by omega), show (0 : Int) ≤ (i : Int) by omega, show (i : Int) ≤ ((i + 1 : Nat) : Int) by omega, show ((i + 1 : Nat) : Int) ≤ (l.size : Int) by omega, Int.toNat_natCast, hx, show o.size + 1 ≤ 9223372036854775807 by omega]
   exact ev_bnd v1 q1
  ·
   obtain ⟨a, a1, a2, p1, p2, p3⟩ := bad_ok hc hs s2 o (by omega)
   refine ⟨a, a1, a2, ev_suc ?_, p2, p3⟩
   simp only [spec_l04Draw.l0, show ((i : Int) < (l.size : Int)) by omega, g, if_true, if_false]
   exact ev_bnd p1 (ev_of rfl)
theorem d4_ok {c : List Int} (hc : okC c) {s1 : Int} (hs : okS c s1) (s2 : Int) : ∃ r t1 t2, Ev (fun k => spec_l04Draw.f k c s1 s2) (r, t1, t2) ∧ okS c t1 ∧ r.size ≤ 100000 := by
 unfold spec_l04Draw.f
 obtain ⟨i, x1, x2, e1, k1, _⟩ := next_ok hc hs s2 4
 by_cases i0 : i = 0
 ·
  obtain ⟨n, y1, y2, e2, l1, l2, l3, _⟩ := next_ok hc k1 x2 14
  have l3 := l3 (by omega)
  obtain ⟨v, v1, v2, e3, f1, f2⟩ := pick_ok hc l1 y2 [2, 2, 3] (by decide)
  obtain ⟨a, a1, a2, q1, q2, q3⟩ := drawOf_ok hc f1 v2 n v (by omega)
  rw [if_pos l2] at q3
  obtain ⟨b, b1, b2⟩ := dr_rev a (by omega)
  obtain ⟨r, r1, r2, p1, p2, p3⟩ := bad_ok hc q2 a2 (a ++ b) (by rw [ByteArray.size_append]; omega)
  refine ⟨r, r1, r2, ?_, p2, p3⟩
  simp only [e1, e2, e3, Option.bind_some, i0, if_true]
  refine ev_bnd q1 (ev_bnd b1 ?_)
  simp only [show a.size + b.size ≤ 9223372036854775807 by omega, if_true]
  exact ev_bnd p1 (ev_of rfl)
 ·
  by_cases i1 : i = 1
  ·
   obtain ⟨n, y1, y2, e2, l1, l2, l3, _⟩ := next_ok hc k1 x2 7
   have l3 := l3 (by omega)
   obtain ⟨v, v1, v2, e3, f1, f2⟩ := pick_ok hc l1 y2 [2, 3] (by decide)
   obtain ⟨a, a1, a2, q1, q2, q3⟩ := drawOf_ok hc f1 v2 n v (by omega)
   rw [if_pos l2] at q3
   obtain ⟨r, r1, r2, p1, p2, p3⟩ := d4_l0 hc q2 a2 a (by omega) a.size 0 (⟨#[]⟩ : ByteArray) (by omega) (by show 0 ≤ 50; omega)
   refine ⟨r, r1, r2, ?_, p2, p3⟩
   simp only [e1, e2, e3, Option.bind_some, i1, show ¬ ((1 : Int) = 0) by omega, if_false, if_true]
   exact ev_bnd q1 p1
  ·
   obtain ⟨r, r1, r2, p1, p2, p3⟩ := spoil_ok hc k1 x2
   refine ⟨r, r1, r2, ?_, p2, p3⟩
   simp only [e1, Option.bind_some, i0, i1, if_false]
   exact ev_bnd p1 (ev_of rfl)
theorem drawParts_ok {c : List Int} (hc : okC c) : ∃ w, Ev (fun k => spec_DrawFewestParts.f k c) w ∧ w.size ≤ 100000 := by
 obtain ⟨s2, h0⟩ := from_ok hc
 obtain ⟨w, u1, u2, g1, g2, g3⟩ := d4_ok hc (okS0 c) s2
 refine ⟨w, ?_, g3⟩
 unfold spec_DrawFewestParts.f
 exact ev_bnd h0 (ev_bnd g1 (ev_of rfl))
theorem drawDirected_ok {c : List Int} (hc : okC c) : ∃ w, Ev (fun k => spec_DrawDirectedWord.f k c) w ∧ w.size ≤ 100000 := by
 obtain ⟨s2, h0⟩ := from_ok hc
 obtain ⟨v, v1, v2, e3, f1, f2⟩ := pick_ok hc (okS0 c) s2 [4, 7, 12] (by decide)
 have hv : 4 ≤ v ∧ v ≤ 12 := by
  simp only [List.mem_cons, List.not_mem_nil, or_false] at f2
  omega
 obtain ⟨n, y1, y2, e2, l1, l2, l3, _⟩ := next_ok hc f1 v2 v
 have l3 := l3 (by omega)
 obtain ⟨u, u1, u2, e4, g1, g2⟩ := pick_ok hc l1 y2 [1, 2, 2, 3] (by decide)
 obtain ⟨a, a1, a2, q1, q2, q3⟩ := drawOf_ok hc g1 u2 n u (by omega)
 rw [if_pos l2] at q3
 obtain ⟨r, r1, r2, p1, p2, p3⟩ := bad_ok hc q2 a2 a (by omega)
 refine ⟨r, ?_, p3⟩
 unfold spec_DrawDirectedWord.f
 refine ev_bnd h0 ?_
 simp only [e3, e2, e4, Option.bind_some]
 exact ev_bnd q1 (ev_bnd p1 (ev_of rfl))
theorem drawClosed_ok {c : List Int} (hc : okC c) : ∃ w, Ev (fun k => spec_DrawIsClosedWord.f k c) w ∧ w.size ≤ 100000 := by
 unfold spec_DrawIsClosedWord.f
 obtain ⟨s2, h0⟩ := from_ok hc
 obtain ⟨i, x1, x2, e1, k1, _⟩ := next_ok hc (okS0 c) s2 2
 by_cases i0 : i = 0
 ·
  obtain ⟨n, y1, y2, e2, l1, l2, l3, _⟩ := next_ok hc k1 x2 8
  have l3 := l3 (by omega)
  obtain ⟨a, a1, a2, q1, q2, q3⟩ := drawOf_ok hc l1 y2 n 2 (by omega)
  rw [if_pos l2] at q3
  obtain ⟨r, r1, r2, p1, p2, p3⟩ := bad_ok hc q2 a2 a (by omega)
  refine ⟨r, ev_bnd h0 ?_, p3⟩
  simp only [e1, e2, Option.bind_some, i0, if_true]
  exact ev_bnd q1 (ev_bnd p1 (ev_of rfl))
 ·
  obtain ⟨w, u1, u2, g1, g2, g3⟩ := d4_ok hc k1 x2
  refine ⟨w, ev_bnd h0 ?_, g3⟩
  simp only [e1, Option.bind_some, i0, if_false]
  exact ev_bnd g1 (ev_of rfl)
theorem drawCC_ok {c : List Int} (hc : okC c) : ∃ w, Ev (fun k => spec_DrawCountClosed.f k c) w ∧ w.size ≤ 100000 := by
 obtain ⟨s2, h0⟩ := from_ok hc
 obtain ⟨n, y1, y2, e2, l1, l2, l3, _⟩ := next_ok hc (okS0 c) s2 22
 have l3 := l3 (by omega)
 obtain ⟨u, u1, u2, e4, g1, g2⟩ := pick_ok hc l1 y2 [2, 2, 3] (by decide)
 obtain ⟨a, a1, a2, q1, q2, q3⟩ := drawOf_ok hc g1 u2 n u (by omega)
 rw [if_pos l2] at q3
 obtain ⟨r, r1, r2, p1, p2, p3⟩ := bad_ok hc q2 a2 a (by omega)
 refine ⟨r, ?_, p3⟩
 unfold spec_DrawCountClosed.f
 refine ev_bnd h0 ?_
 simp only [e2, e4, Option.bind_some]
 exact ev_bnd q1 (ev_bnd p1 (ev_of rfl))

end Go.Proofs.Ytjmcffejpgblfaa.PF
