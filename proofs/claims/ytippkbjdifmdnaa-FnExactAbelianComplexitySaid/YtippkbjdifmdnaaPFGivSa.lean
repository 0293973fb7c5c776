/- Given for the print: the small functions of the library's sort of letters: the comparison, the generator of numbers that look drawn, the median of three and the choice of a pivot, each by its own walk. -/
import Derived.Test.YtippkbjdifmdnaaPFGivSh
import Derived.RegionTactic
import Derived.Sort.WalkB12
import Derived.Sort.LotD5
import Derived.Lib.SlicesMore
import Derived.Lib.OwnBridge
namespace Go.Proofs.Ytippkbjdifmdnaa.PF
open Go.RowKit Go.Lib Go.Sort Go.Proofs.YtippkbjdifmdnaaW.PrintWords Go.Proofs.YtippkbjdifmdnaaW.PrintLast Go.Proofs.YtippkbjdifmdnaaW.PrintMore
set_option linter.unusedVariables false
set_option linter.unusedSimpArgs false

set_option maxHeartbeats 1000000 in
theorem nan_b (x : Int) (w : World) : Calls Try.prog 116 #[.int .u8 x] w fun e w' => e = .returned (.bool false) ∧ w' = w := by
  go_enter Try.func116, Try.ntmps116
  go_wp2
  go_ret
  exact ⟨by simp, rfl⟩

set_option maxHeartbeats 1000000 in
theorem less_b (x y : Int) (w : World) : Calls Try.prog 96 #[.int .u8 x, .int .u8 y] w fun e w' => e = .returned (.bool (ltInt x y)) ∧ w' = w := by
  go_enter Try.func96, Try.ntmps96
  go_wp2_with (go_at_call 116; refine (nan_b _ _).mono ?_; rintro e w' ⟨rfl, rfl⟩)
  go_ret
  exact ⟨rfl, rfl⟩

/-- A counter in a block of its own behind w0; all that w0 had is as it was. -/
structure Sw (w0 : World) (sb : Nat) (w : World) : Prop where
  below : Below w0.heap.size w0 w
  ge : w0.heap.size ≤ sb
  val : ∃ s : Int, Holds (Value.int .i64) w sb 0 #[s]

theorem Sw.cell {w0 w : World} {sb : Nat} (h : Sw w0 sb w) : ∃ s : Int, w.cell? ⟨sb, 0, none⟩ = some (.int .i64 s) ∧ w.frozen? ⟨sb, 0, none⟩ = false := by
  obtain ⟨s, hs⟩ := h.val
  exact ⟨s, by simpa using hs 0 (by simp)⟩

theorem Sw.set {w0 w : World} {sb : Nat} (h : Sw w0 sb w) (t : Int) : Sw w0 sb (w.setCell ⟨sb, 0, none⟩ (.int .i64 t)) := by
  obtain ⟨s, hs⟩ := h.val
  refine ⟨below_set h.below h.ge, h.ge, t, ?_⟩
  have e := putRow_set (Value.int .i64) w sb 0 #[s] 0 t (by simp)
  rw [putRow_self _ _ _ _ _ hs] at e
  rw [show (0 + 0 : Nat) = 0 from rfl] at e
  rw [e]
  exact holds_putRow _ _ _ _ #[s] _ hs (by simp)

theorem Sw.drewN {w0 w : World} {sb : Nat} (h : Sw w0 sb w) (m : Nat) : Sw w0 sb (w.drewN m) := by
  obtain ⟨s, hs⟩ := h.val
  exact ⟨pw_below_drewN h.below m, h.ge, s, holds_ahead _ w m sb 0 _ hs⟩

theorem Sw.drew {w0 w : World} {sb : Nat} (h : Sw w0 sb w) : Sw w0 sb w.drew := h.drewN 1

theorem Sw.at {w0 w : World} {sb g j : Nat} {v : Value} (h : Sw w0 sb w) (hg : g < w0.heap.size) (hc : w0.cell? ⟨g, j, none⟩ = some v) : w.cell? ⟨g, j, none⟩ = some v := by
  exact pw_cell_below h.below hc

set_option maxHeartbeats 2000000 in
set_option maxRecDepth 100000 in
theorem order2_b (g n c a b sb : Nat) (G : Nat → Int) (w0 w : World) (hC : ∀ j, j < n → w0.cell? ⟨g, j, none⟩ = some (.int .u8 (G j))) (hg : g < w0.heap.size) (ha : a < n) (hb : b < n) (hS : Sw w0 sb w) :
    Calls Try.prog 121 #[.slice (some ⟨g, 0, none⟩) n c, .int .i64 a, .int .i64 b, .pointer (some ⟨sb, 0, none⟩)] w fun e w' =>
      ∃ x y : Nat, e = .returned (.tuple #[.int .i64 x, .int .i64 y]) ∧ ((x = a ∧ y = b) ∨ (x = b ∧ y = a)) ∧ Sw w0 sb w' := by
  have ca := hS.at hg (hC a ha)
  have cb := hS.at hg (hC b hb)
  obtain ⟨s, cs, fs⟩ := hS.cell
  have HS := Aside0.mk hS
  clear hS hC
  go_enter Try.func121, Try.ntmps121
  go_wp2
  go_region_with (go_at_call 96; refine (less_b _ _ _).mono ?_; rintro e w' ⟨rfl, rfl⟩)
  all_goals (try go_wp2)
  all_goals (try (go_region; (try go_wp2)))
  all_goals go_ret2
  all_goals first
    | exact ⟨b, a, rfl, .inr ⟨rfl, rfl⟩, by first | exact HS.out.set _ | exact (HS.out.set _).drew | exact (HS.out.drew.set _).drew | exact ((HS.out.drew).set _).drewN _ | exact (HS.out.set _).drewN _ | exact ((HS.out.drewN _).set _).drewN _⟩
    | exact ⟨a, b, rfl, .inl ⟨rfl, rfl⟩, by first | exact HS.out | exact HS.out.drew | exact HS.out.drew.drew | exact HS.out.drew.drewN _ | exact HS.out.drewN _⟩

set_option maxHeartbeats 2000000 in
set_option maxRecDepth 100000 in
theorem median_b (g n cp a b c sb : Nat) (G : Nat → Int) (w0 w : World) (hC : ∀ j, j < n → w0.cell? ⟨g, j, none⟩ = some (.int .u8 (G j))) (hg : g < w0.heap.size) (ha : a < n) (hb : b < n) (hc : c < n) (hS : Sw w0 sb w) :
    Calls Try.prog 115 #[.slice (some ⟨g, 0, none⟩) n cp, .int .i64 a, .int .i64 b, .int .i64 c, .pointer (some ⟨sb, 0, none⟩)] w fun e w' =>
      ∃ x : Nat, e = .returned (.int .i64 x) ∧ (x = a ∨ x = b ∨ x = c) ∧ Sw w0 sb w' := by
  have O := Aside0.mk (fun (x y : Nat) (W : World) (hx : x < n) (hy : y < n) (hW : Sw w0 sb W) => order2_b g n cp x y sb G w0 W hC hg hx hy hW)
  clear hC hg
  go_enter Try.func115, Try.ntmps115
  go_wp2_with (go_at_call_of 121 (Value.int .i64 (b : Int)); (with_reducible refine (O.out a b w ha hb hS).mono ?_); rintro e w1 ⟨x1, y1, rfl, h1, S1⟩)
  go_wp2_with (go_at_call_of 121 (Value.int .i64 (c : Int)); (with_reducible refine (O.out y1 c w1 (by omega) hc S1).mono ?_); rintro e w2 ⟨x2, y2, rfl, h2, S2⟩)
  go_wp2_with (go_at_call_of 121 (Value.int .i64 (x1 : Int)); (with_reducible refine (O.out x1 x2 w2 (by omega) (by omega) S2).mono ?_); rintro e w3 ⟨x3, y3, rfl, h3, S3⟩)
  go_ret
  exact ⟨y3, rfl, by omega, S3⟩

set_option maxHeartbeats 2000000 in
set_option maxRecDepth 100000 in
theorem adjacent_b (g n cp a sb : Nat) (G : Nat → Int) (w0 w : World) (hC : ∀ j, j < n → w0.cell? ⟨g, j, none⟩ = some (.int .u8 (G j))) (hg : g < w0.heap.size) (ha : 1 ≤ a) (hb : a + 1 < n) (hn : n < 4611686018427387904) (hS : Sw w0 sb w) :
    Calls Try.prog 114 #[.slice (some ⟨g, 0, none⟩) n cp, .int .i64 a, .pointer (some ⟨sb, 0, none⟩)] w fun e w' =>
      ∃ x : Nat, e = .returned (.int .i64 x) ∧ (a ≤ x + 1 ∧ x ≤ a + 1) ∧ Sw w0 sb w' := by
  have O := Aside0.mk (median_b g n cp (a - 1) a (a + 1) sb G w0 w hC hg (by omega) (by omega) hb hS)
  clear hC hg
  go_enter Try.func114, Try.ntmps114
  go_wp2_with (go_at_call 115; rw [show ((a : Int) - 1) = ((a - 1 : Nat) : Int) by omega, show ((a : Int) + 1) = ((a + 1 : Nat) : Int) by omega]; refine O.out.mono ?_; rintro e w1 ⟨x1, rfl, h1, S1⟩)
  go_ret
  exact ⟨x1, rfl, by omega, S1⟩

theorem Sw.start (w : World) (T : TypeId) : Sw w w.heap.size (w.alloc (.cells #[.int .i64 0] T)) := by
  refine ⟨below_alloc (Below.refl _ _) _, Nat.le_refl _, 0, ?_⟩
  intro j hj
  have h0 : j = 0 := by simpa using hj
  subst h0
  refine ⟨?_, ?_⟩
  · rw [World.cell?_alloc_at _ _ _ _ rfl]; rfl
  · rw [World.frozen?_alloc_at _ _ _ _ rfl]

set_option maxHeartbeats 4000000 in
set_option maxRecDepth 100000 in
theorem pivot_b (g n cp a b : Nat) (G : Nat → Int) (w : World) (hC : ∀ j, j < n → w.cell? ⟨g, j, none⟩ = some (.int .u8 (G j))) (hg : g < w.heap.size) (hab : a < b) (hb : b ≤ n) (hn : n < 4611686018427387904) :
    Calls Try.prog 93 #[.slice (some ⟨g, 0, none⟩) n cp, .int .i64 a, .int .i64 b] w fun e w' =>
      ∃ (p : Nat) (h : Int), e = .returned (.tuple #[.int .i64 p, .int .i64 h]) ∧ a ≤ p ∧ p < b ∧ Below w.heap.size w w' := by
  have MA := Aside0.mk (fun (x : Nat) (W : World) (h1 : 1 ≤ x) (h2 : x + 1 < n) (hW : Sw w w.heap.size W) => adjacent_b g n cp x w.heap.size G w W hC hg h1 h2 hn hW)
  have MD := Aside0.mk (fun (x y z : Nat) (W : World) (h1 : x < n) (h2 : y < n) (h3 : z < n) (hW : Sw w w.heap.size W) => median_b g n cp x y z w.heap.size G w W hC hg h1 h2 h3 hW)
  have S0 := Aside0.mk (fun T => Sw.start w T)
  clear hC hg
  obtain ⟨I, hI⟩ : ∃ I : Nat, I = a + (b - a) / 4 * 1 := ⟨_, rfl⟩
  obtain ⟨J, hJ⟩ : ∃ J : Nat, J = a + (b - a) / 4 * 2 := ⟨_, rfl⟩
  obtain ⟨K, hK⟩ : ∃ K : Nat, K = a + (b - a) / 4 * 3 := ⟨_, rfl⟩
  have eI : ((a : Int) + ((b : Int) - (a : Int)) / 4) = (I : Int) := by omega
  have eJ : ((a : Int) + ((b : Int) - (a : Int)) / 4 * 2) = (J : Int) := by omega
  have eK : ((a : Int) + ((b : Int) - (a : Int)) / 4 * 3) = (K : Int) := by omega
  by_cases h8 : b - a ≥ 8
  · by_cases h50 : b - a ≥ 50
    · have rI : a + 1 ≤ I ∧ I + 1 < b := by omega
      have rJ : a + 1 ≤ J ∧ J + 1 < b := by omega
      have rK : a + 1 ≤ K ∧ K + 1 < b := by omega
      clear hI hJ hK
      go_enter Try.func93, Try.ntmps93
      go_wp2_with (go_at_call_of 114 (Value.int .i64 (I : Int)); (with_reducible refine (MA.out I _ (by omega) (by omega) (S0.out _)).mono ?_); rintro e w1 ⟨i1, rfl, h1, S1⟩)
      go_wp2_with (go_at_call_of 114 (Value.int .i64 (J : Int)); (with_reducible refine (MA.out J _ (by omega) (by omega) S1).mono ?_); rintro e w2 ⟨j1, rfl, h2, S2⟩)
      go_wp2_with (go_at_call_of 114 (Value.int .i64 (K : Int)); (with_reducible refine (MA.out K _ (by omega) (by omega) S2).mono ?_); rintro e w3 ⟨k1, rfl, h3, S3⟩)
      go_wp2_with (go_at_call 115; (with_reducible refine (MD.out i1 j1 k1 _ (by omega) (by omega) (by omega) S3).mono ?_); rintro e w4 ⟨p1, rfl, h4, S4⟩; obtain ⟨s, cs, fs⟩ := S4.cell)
      all_goals go_ret2
      all_goals exact ⟨p1, _, rfl, by omega, by omega, S4.below⟩
    · have rI : a + 1 ≤ I ∧ I + 1 < b := by omega
      have rJ : a + 1 ≤ J ∧ J + 1 < b := by omega
      have rK : a + 1 ≤ K ∧ K + 1 < b := by omega
      clear hI hJ hK
      go_enter Try.func93, Try.ntmps93
      go_wp2_with (go_at_call 115; (with_reducible refine (MD.out I J K _ (by omega) (by omega) (by omega) (S0.out _)).mono ?_); rintro e w4 ⟨p1, rfl, h4, S4⟩; obtain ⟨s, cs, fs⟩ := S4.cell)
      all_goals go_ret2
      all_goals exact ⟨p1, _, rfl, by omega, by omega, S4.below⟩
  · have rJ : a ≤ J ∧ J < b := by omega
    clear hI hJ hK
    have hB := Aside0.mk (fun T => (Sw.start w T).below)
    go_enter Try.func93, Try.ntmps93
    go_wp2
    all_goals go_ret2
    all_goals exact ⟨J, _, rfl, rJ.1, rJ.2, hB.out _⟩

end Go.Proofs.Ytippkbjdifmdnaa.PF
