/- Given for the print: the library's sort of letters: a row of letters of the call's own, the generator, and how patterns are broken: the row is permuted, by its own walk. -/
import Derived.Test.YtippkbjdifmdnaaPFGivSa
import Derived.Test.YtippkbjdifmdnaaShelf
import Derived.Sort.Walk7
namespace Go.Proofs.Ytippkbjdifmdnaa.PF
open Go.RowKit Go.Lib Go.Sort Go.Proofs.YtippkbjdifmdnaaW.PrintWords Go.Proofs.YtippkbjdifmdnaaW.PrintLast Go.Proofs.YtippkbjdifmdnaaW.PrintMore
set_option linter.unusedVariables false
set_option linter.unusedSimpArgs false

/-- A row of letters of the call's own, in a block behind w0; all that w0 had is as it was. -/
structure RB (w0 : World) (g n cp : Nat) (w : World) (l : List Int) : Prop where
  below : Below w0.heap.size w0 w
  row : Hd.R (Kd.int .u8) 5 w w0.heap.size (fun _ => True) (.slice (some ⟨g, 0, none⟩) n cp) l

theorem RB.len {w0 w : World} {g n cp : Nat} {l : List Int} (h : RB w0 g n cp w l) : l.length = n := (Hd.R_reads' h.row).1.symm
theorem RB.size {w0 w : World} {g n cp : Nat} {l : List Int} (h : RB w0 g n cp w l) : l.toArray.size = n := by simp [h.len]
theorem RB.holds {w0 w : World} {g n cp : Nat} {l : List Int} (h : RB w0 g n cp w l) : w0.heap.size ≤ g ∧ g < w.heap.size ∧ n ≤ cp ∧ Holds encB w g 0 l.toArray := by
  obtain ⟨_, g', cap, e, h1, h2, h3, _, h4⟩ := h.row
  injection e with e1 e2 e3
  injection e1 with e1
  injection e1 with e1
  subst e1
  subst e3
  exact ⟨h1, h2, by omega, h4⟩
theorem RB.small {w0 w : World} {g n cp : Nat} {l : List Int} (h : RB w0 g n cp w l) : n ≤ 9223372036854775807 := by
  obtain ⟨_, g', cap, e, h1, h2, h3, h4, h5⟩ := h.row
  rw [h.len] at h4
  exact h4
theorem RB.of {w0 w : World} {g n cp : Nat} {l : List Int} (hb : Below w0.heap.size w0 w) (hl : l.length = n) (hc : n ≤ cp) (hn : n ≤ 9223372036854775807) (h1 : w0.heap.size ≤ g) (h2 : g < w.heap.size) (h : Holds encB w g 0 l.toArray) : RB w0 g n cp w l :=
  ⟨hb, fun _ _ => trivial, g, cp, by rw [hl], h1, h2, by rw [hl]; exact hc, by rw [hl]; exact hn, h⟩
theorem RB.put {w0 w : World} {g n cp : Nat} {l ys : List Int} (h : RB w0 g n cp w l) (hy : ys.length = n) (q : Nat) : RB w0 g n cp (putRow encB (Sort.ahead w q) g 0 ys.toArray) ys :=
  RB.of (Lib.below_putRow h.below h.holds.1) hy h.holds.2.2.1 h.small h.holds.1 (by simpa using h.holds.2.1) (holds_putRow encB _ g 0 l.toArray ys.toArray (holds_ahead encB w q g 0 _ h.holds.2.2.2) (by simp [hy, h.len]))
theorem RB.alloc {w0 w : World} {g n cp : Nat} {l : List Int} (h : RB w0 g n cp w l) (o : Obj) : RB w0 g n cp (w.alloc o) l := ⟨below_alloc h.below o, Hd.R_alloc h.row o⟩
theorem RB.step {w0 w w' : World} {g n cp : Nat} {l : List Int} (h : RB w0 g n cp w l) (hb : Below w.heap.size w w') : RB w0 g n cp w' l := ⟨below_step h.below hb, Hd.R_below h.row hb⟩
theorem RB.drew {w0 w : World} {g n cp : Nat} {l : List Int} (h : RB w0 g n cp w l) : RB w0 g n cp w.drew l := ⟨below_drew1 h.below, Hd.R_drew h.row⟩
theorem RB.drewN {w0 w : World} {g n cp : Nat} {l : List Int} (h : RB w0 g n cp w l) (m : Nat) : RB w0 g n cp (w.drewN m) l := ⟨pw_below_drewN h.below m, Hd.R_drewN h.row m⟩
/-- What a printed contract leaves. -/
theorem RB.after {w0 w' : World} {g n cp m : Nat} {l : List Int} (h1 : Hd.R (Kd.int .u8) 5 w' w0.heap.size (fun k_ => (True ∨ m ≤ k_)) (.slice (some ⟨g, 0, none⟩) n cp) l) (h2 : Below w0.heap.size w0 w') : RB w0 g n cp w' l := ⟨h2, Hd.R_mono h1 (fun _ _ => trivial)⟩
/-- What is read of it. -/
theorem RB.cell {w0 w : World} {g n cp : Nat} {l : List Int} (h : RB w0 g n cp w l) : ∀ j, j < n → w.cell? ⟨g, j, none⟩ = some (.int .u8 (l.toArray[j]!)) := fun j hj => by
  have := (h.holds.2.2.2 j (by rw [h.size]; exact hj)).1
  rw [Nat.zero_add] at this
  exact this

set_option maxHeartbeats 1000000 in
theorem next_b (rb X : Nat) (hX : X < 18446744073709551616) (w : World) (hc : w.cell? ⟨rb, 0, none⟩ = some (.int .u64 X)) (hf : w.frozen? ⟨rb, 0, none⟩ = false) :
    Calls Try.prog 113 #[.pointer (some ⟨rb, 0, none⟩)] w fun e w' => ∃ Y : Nat, Y < 18446744073709551616 ∧ e = .returned (.int .u64 (Y : Int)) ∧ w' = (w.setCell ⟨rb, 0, none⟩ (.int .u64 (Y : Int))).drewN 3 := by
  obtain ⟨A, hA⟩ : ∃ A : Nat, A = X ^^^ (X * 8192 % 18446744073709551616) := ⟨_, rfl⟩
  obtain ⟨B, hB⟩ : ∃ B : Nat, B = A ^^^ (A / 128) := ⟨_, rfl⟩
  obtain ⟨C, hC⟩ : ∃ C : Nat, C = B ^^^ (B * 131072 % 18446744073709551616) := ⟨_, rfl⟩
  have lA : A < 18446744073709551616 := by rw [hA]; exact Nat.xor_lt_two_pow (n := 64) (by omega) (by omega)
  have lB : B < 18446744073709551616 := by rw [hB]; exact Nat.xor_lt_two_pow (n := 64) (by omega) (by omega)
  have lC : C < 18446744073709551616 := by rw [hC]; exact Nat.xor_lt_two_pow (n := 64) (by omega) (by omega)
  have e1 : bits .xor .u64 (X : Int) (IntKind.u64.wrap ((X : Int) * 8192)) = (A : Int) := by
    rw [IntKind.wrap_u64, show ((X : Int) * 8192 % 18446744073709551616) = ((X * 8192 % 18446744073709551616 : Nat) : Int) by omega, bits_xor_u64_nat _ _ hX (by omega), hA]
  have e2 : bits .xor .u64 (A : Int) ((A : Int) / 128) = (B : Int) := by
    rw [show ((A : Int) / 128) = ((A / 128 : Nat) : Int) by omega, bits_xor_u64_nat _ _ lA (by omega), hB]
  have e3 : bits .xor .u64 (B : Int) (IntKind.u64.wrap ((B : Int) * 131072)) = (C : Int) := by
    rw [IntKind.wrap_u64, show ((B : Int) * 131072 % 18446744073709551616) = ((B * 131072 % 18446744073709551616 : Nat) : Int) by omega, bits_xor_u64_nat _ _ lB (by omega), hC]
  clear hA hB hC
  have hss : ∀ v v', (w.setCell ⟨rb, 0, none⟩ v).setCell ⟨rb, 0, none⟩ v' = w.setCell ⟨rb, 0, none⟩ v' := setCell_setCell w rb 0
  go_enter Try.func113, Try.ntmps113
  go_wp2
  go_region
  all_goals go_wp2
  all_goals go_region
  all_goals go_wp2
  all_goals go_region
  all_goals go_wp2
  go_ret
  exact ⟨C, lC, rfl, rfl⟩

theorem power_b (n : Nat) (hn : n < 4611686018427387904) (w : World) :
    Calls Try.prog 112 #[.int .i64 n] w fun e w' => e = .returned (.int .u64 ((1 <<< bitsLen n : Nat) : Int)) ∧ w' = w := by
  have hLen : ∀ w, Calls Try.prog 83 #[.int .u64 (n : Int)] w fun e w' => e = .returned (.int .i64 (bitsLen n : Nat)) ∧ w' = w := fun w => by
    have h := Try.bits_Len (n : Int) w (by omega) (by omega)
    rwa [Int.toNat_natCast, bitLen_eq _ (by omega)] at h
  have hk : bitsLen n ≤ 62 := (bitsLen_le_iff n 62).2 (by omega)
  have hp := wrap_two_pow (bitsLen n) hk
  have wr : IntKind.u64.wrap (n : Int) = n := by simp [IntKind.wrap, IntKind.bits, IntKind.signed]; omega
  go_enter Try.func112, Try.ntmps112
  go_wp2_with (first | (go_at_call 83; refine (hLen _).mono ?_; rintro e w' ⟨rfl, rfl⟩))
  go_ret
  exact ⟨rfl, rfl⟩

set_option maxHeartbeats 4000000 in
set_option maxRecDepth 100000 in
theorem break_go (w0 : World) (g n cp a L : Nat) (l : List Int) (w : World) (hR : RB w0 g n cp w l) (hb : a + L ≤ n) (hn : n < 4611686018427387904) (h8 : 8 ≤ L) :
    Calls Try.prog 92 #[.slice (some ⟨g, 0, none⟩) n cp, .int .i64 a, .int .i64 ((a + L : Nat) : Int)] w fun e w' =>
      e = .returned (.tuple #[]) ∧ ∃ l' : List Int, PermIn a (a + L) l.toArray l'.toArray ∧ RB w0 g n cp w' l' := by
  obtain ⟨M, hM⟩ : ∃ M : Nat, M = 1 <<< bitsLen L := ⟨_, rfl⟩
  have hM1 : 1 ≤ M := by rw [hM, Nat.one_shiftLeft]; exact Nat.two_pow_pos _
  have hM2 : M ≤ 2 * L := by rw [hM, Nat.one_shiftLeft]; exact two_pow_bitsLen_le (by omega)
  have hNP : ∀ w, Calls Try.prog 112 #[.int .i64 (L : Int)] w fun e w' => e = .returned (.int .u64 (M : Int)) ∧ w' = w := by rw [hM]; exact fun w => power_b L (by omega) w
  clear hM
  have hblk := hR.holds.2.1
  have HH : Hid (Holds encB w g 0 l.toArray) := hR.holds.2.2.2
  have HR : Hid (RB w0 g n cp w l) := hR
  have hsz : l.toArray.size = n := hR.size
  have HST : Hid (∀ T, w.alloc (Obj.cells #[.int .u64 (L : Int)] T) = grow (putRow encB (Sort.ahead w 0) g 0 l.toArray) #[Obj.cells #[.int .u64 (L : Int)] T]) := by
    show ∀ T, _
    intro T
    rw [show Sort.ahead w 0 = w from rfl, putRow_self _ _ _ _ _ HH.out, alloc_eq_grow]
  clear hR
  go_enter Try.func92, Try.ntmps92
  go_wp2_with (first | (go_at_call 112; rw [show ((a : Int) + (L : Int) - (a : Int)) = (L : Int) by omega]; refine (hNP _).mono ?_; rintro e w' ⟨rfl, rfl⟩))
  go_loopg [9] 3 (fun k vi wr => ∃ (t m R : Nat) (dk : Array Int), vi = .int .i64 ((a + L / 4 * 2 - 1 + t : Nat) : Int) ∧ t + k = 3 ∧ dk.size = n ∧ R < 18446744073709551616 ∧
      wr = grow (putRow encB (Sort.ahead w m) g 0 dk) #[Obj.cells #[.int .u64 (R : Int)] 117] ∧ PermIn a (a + L) l.toArray dk)
  case atStart => exact ⟨0, 0, L, l.toArray, by congr 1; omega, by omega, hsz, by omega, HST.out _, permIn_refl _ _ _⟩
  case round =>
    obtain ⟨t, m, R, dk, rfl, ht, hsk, lR, hw, hP⟩ := hrel
    obtain ⟨F, hF⟩ : ∃ F : Nat → Int, ∀ x, F x = dk[x]! := ⟨fun x => dk[x]!, fun _ => rfl⟩
    have hz : (putRow encB (Sort.ahead w m) g 0 dk).heap.size = w.heap.size := by simp
    have hcw : ∀ x, x < n → wr.cell? ⟨g, x, none⟩ = some (.int .u8 (F x)) := fun x hx => by
      have h := cell?_putRow encB (Sort.ahead w m) g 0 l.toArray dk (holds_ahead _ _ _ _ _ _ HH.out) (by omega) x (by omega)
      rw [Nat.zero_add] at h
      rw [hw, cell?_grow _ _ _ (by rw [hz]; exact hblk), hF, h]
      rfl
    have hfw : ∀ x, x < n → wr.frozen? ⟨g, x, none⟩ = false := fun x hx => by
      have h := ((holds_ahead _ _ m _ _ _ HH.out) x (by omega)).2
      rw [Nat.zero_add] at h
      rw [hw, frozen?_grow _ _ _ (by rw [hz]; exact hblk), frozen?_putRow]; exact h
    have hcB : wr.cell? ⟨w.heap.size, 0, none⟩ = some (.int .u64 (R : Int)) := by rw [hw, ← hz]; exact grow_one_cell _ _ _
    have hfB : wr.frozen? ⟨w.heap.size, 0, none⟩ = false := by rw [hw, ← hz]; exact grow_one_frozen _ _ _
    have hNext := next_b _ R lR wr hcB hfB
    have HW : Hid (wr = grow (putRow encB (Sort.ahead w m) g 0 dk) #[Obj.cells #[.int .u64 (R : Int)] 117]) := hw
    have HF : Hid (∀ x, F x = dk[x]!) := hF
    have HP : Hid (PermIn a (a + L) l.toArray dk) := hP
    clear hw hF hP
    have hAnd : Hid (∀ R' : Nat, R' < 18446744073709551616 → ∃ O : Nat, O ≤ M - 1 ∧ bits .and .u64 (R' : Int) ((M : Int) - 1) = (O : Int)) := by
      intro R' lR'
      refine ⟨R' &&& (M - 1), Nat.and_le_right, ?_⟩
      rw [show ((M : Int) - 1) = ((M - 1 : Nat) : Int) by omega, bits_and_u64_nat _ _ lR' (by omega)]
    have HN : Hid (Calls Try.prog 113 #[.pointer (some ⟨w.heap.size, 0, none⟩)] wr fun e w' => ∃ Y : Nat, Y < 18446744073709551616 ∧ e = .returned (.int .u64 (Y : Int)) ∧ w' = (wr.setCell ⟨w.heap.size, 0, none⟩ (.int .u64 (Y : Int))).drewN 3) := hNext
    clear hNext
    go_wp2_with (first | (go_at_call 113; (with_reducible refine HN.out.mono ?_); rintro e w' ⟨R', lR', rfl, rfl⟩; obtain ⟨O, lO, eAnd⟩ := hAnd.out R' lR'))
    · have hLO : L ≤ O := by omega
      have hh1 : a + L / 4 * 2 - 1 + t < n := by omega
      have hh2 : (a : Int) + ((O : Int) - (L : Int)) < n := by omega
      have hh3 : 0 ≤ (a : Int) + ((O : Int) - (L : Int)) := by omega
      have hh4 : a + (O - L) < n := by omega
      have hst := Aside0.mk (step_world encB w m 4 g 0 dk (a + L / 4 * 2 - 1 + t) (a + (O - L)) hblk (by omega) (by omega) (.int .u64 (R : Int)) (.int .u64 (R' : Int)) 117)
      have hpm := Aside0.mk (permIn_trans _ _ _ _ _ HP.out (swp_permIn dk a (a + L) (a + L / 4 * 2 - 1 + t) (a + (O - L)) (by omega) (by omega) (by omega) (by omega) (by omega)))
      by_cases hEq : a + L / 4 * 2 - 1 + t = a + (O - L)
      all_goals
        go_region
        all_goals go_wp2
        go_roundg (3 - (t + 1))
        case measure => omega
        case rel =>
          refine ⟨t + 1, m + 4, R', swp dk (a + L / 4 * 2 - 1 + t) (a + (O - L)), by first | rfl | (congr 1 <;> omega), by omega, by rw [size_swp]; exact hsk, lR', ?_, hpm.out⟩
          have h4 := hst.out
          simp only [Nat.zero_add] at h4
          (try rw [hEq])
          (try rw [hEq] at h4)
          rw [HW.out]
          simp only [HF.out]
          exact h4
    · have hLO : ¬ L ≤ O := by omega
      have hh1 : a + L / 4 * 2 - 1 + t < n := by omega
      have hh2 : (a : Int) + (O : Int) < n := by omega
      have hh3 : 0 ≤ (a : Int) + (O : Int) := by omega
      have hh4 : a + O < n := by omega
      have hst := Aside0.mk (step_world encB w m 4 g 0 dk (a + L / 4 * 2 - 1 + t) (a + O) hblk (by omega) (by omega) (.int .u64 (R : Int)) (.int .u64 (R' : Int)) 117)
      have hpm := Aside0.mk (permIn_trans _ _ _ _ _ HP.out (swp_permIn dk a (a + L) (a + L / 4 * 2 - 1 + t) (a + O) (by omega) (by omega) (by omega) (by omega) (by omega)))
      by_cases hEq : a + L / 4 * 2 - 1 + t = a + O
      all_goals
        go_region
        all_goals go_wp2
        go_roundg (3 - (t + 1))
        case measure => omega
        case rel =>
          refine ⟨t + 1, m + 4, R', swp dk (a + L / 4 * 2 - 1 + t) (a + O), by first | rfl | (congr 1 <;> omega), by omega, by rw [size_swp]; exact hsk, lR', ?_, hpm.out⟩
          have h4 := hst.out
          simp only [Nat.zero_add] at h4
          (try rw [hEq])
          (try rw [hEq] at h4)
          rw [HW.out]
          simp only [HF.out]
          exact h4
    · have hgk : gk = 0 := by omega
      go_end0
      refine ⟨rfl, dk.toList, HP.out, ?_⟩
      rw [HW.out, ← alloc_eq_grow]
      have h5 := (HR.out.put (ys := dk.toList) (by simpa using hsk) m).alloc (Obj.cells #[.int .u64 (R : Int)] 117)
      exact h5

set_option maxHeartbeats 1000000 in
set_option maxRecDepth 100000 in
theorem break_b (w0 : World) (g n cp a b : Nat) (l : List Int) (w : World) (hR : RB w0 g n cp w l) (hab : a ≤ b) (hb : b ≤ n) (hn : n < 4611686018427387904) :
    Calls Try.prog 92 #[.slice (some ⟨g, 0, none⟩) n cp, .int .i64 a, .int .i64 b] w fun e w' =>
      e = .returned (.tuple #[]) ∧ ∃ l' : List Int, PermIn a b l.toArray l'.toArray ∧ RB w0 g n cp w' l' := by
  obtain ⟨L, rfl⟩ : ∃ L, b = a + L := ⟨b - a, by omega⟩
  by_cases h8 : 8 ≤ L
  · exact break_go w0 g n cp a L l w hR hb hn h8
  · have HR := Aside0.mk hR
    clear hR
    have h9 : ¬ (8 ≤ ((a : Int) + (L : Int)) - (a : Int)) := by omega
    go_enter Try.func92, Try.ntmps92
    go_wp2
    go_end0
    exact ⟨rfl, l, permIn_refl _ _ _, HR.out⟩

end Go.Proofs.Ytippkbjdifmdnaa.PF
