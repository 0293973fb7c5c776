/- Given for the print: the library's sort of letters: pdqsort's loop and recursion by its own walk (what its callees do is told by the printed contracts and by 'Same': each computes what the plain function computes); slices.Sort. -/
import Derived.Test.YtippkbjdifmdnaaPFGivSb
import Derived.Test.YtippkbjdifmdnaaPFx2
import Derived.Test.YtippkbjdifmdnaaPFx4
import Derived.Test.YtippkbjdifmdnaaPFx4
import Derived.Test.YtippkbjdifmdnaaPFx5
import Derived.Test.YtippkbjdifmdnaaPFx6
import Derived.Test.YtippkbjdifmdnaaPFx7
import Derived.Sort.AssemblyPlain
import Derived.Deep.Cut
namespace Go.Proofs.Ytippkbjdifmdnaa.PF
open Go.RowKit Go.Lib Go.Sort Go.Proofs.YtippkbjdifmdnaaW.PrintWords Go.Proofs.YtippkbjdifmdnaaW.PrintLast Go.Proofs.YtippkbjdifmdnaaW.PrintMore
set_option linter.unusedVariables false
set_option linter.unusedSimpArgs false

/-- What the printed functions compute is what the plain functions compute. -/
structure Same : Prop where
  ins : ∀ (l : List Int) (a b : Nat), a ≤ b → b ≤ l.length → l.length < 4611686018427387904 → ∃ k, slices_insertionSortOrdered_byte.f k l (a : Int) (b : Int) = some (insertionSort ltInt l.toArray a b).toList
  heap : ∀ (l : List Int) (a b : Nat), a ≤ b → b ≤ l.length → l.length < 4611686018427387904 → ∃ k, slices_heapSortOrdered_byte.f k l (a : Int) (b : Int) = some (heapSort ltInt l.toArray a b).toList
  rev : ∀ (l : List Int) (a b : Nat), a ≤ b → b ≤ l.length → l.length < 4611686018427387904 → ∃ k, slices_reverseRangeOrdered_byte.f k l (a : Int) (b : Int) = some (reverseRange l.toArray a b).toList
  pin : ∀ (l : List Int) (a b : Nat), a < b → b ≤ l.length → l.length < 4611686018427387904 → ∃ k, slices_partialInsertionSortOrdered_byte.f k l (a : Int) (b : Int) = some ((partialInsertionSort ltInt l.toArray a b).2, (partialInsertionSort ltInt l.toArray a b).1.toList)
  peq : ∀ (l : List Int) (a b p : Nat), a ≤ p → p < b → b ≤ l.length → l.length < 4611686018427387904 → ∃ k, slices_partitionEqualOrdered_byte.f k l (a : Int) (b : Int) (p : Int) = some (((partitionEqual ltInt l.toArray a b p).1 : Int), (partitionEqual ltInt l.toArray a b p).2.toList)
  prt : ∀ (l : List Int) (a b p : Nat), a ≤ p → p < b → b ≤ l.length → l.length < 4611686018427387904 → ∃ k, slices_partitionOrdered_byte.f k l (a : Int) (b : Int) (p : Int) = some (((partition ltInt l.toArray a b p).1 : Int), (partition ltInt l.toArray a b p).2.1, (partition ltInt l.toArray a b p).2.2.toList)

section
variable {w0 : World} {g n cp : Nat}
theorem ins_c (C : Same) (hn : n < 4611686018427387904) (l : List Int) (a b : Nat) (W : World) (hR : RB w0 g n cp W l) (hab : a ≤ b) (hb : b ≤ n) :
    Calls Try.prog 90 #[.slice (some ⟨g, 0, none⟩) n cp, .int .i64 a, .int .i64 b] W fun e w' => e = .returned (.tuple #[]) ∧ ∃ r : List Int, RB w0 g n cp w' r ∧ PermIn a b l.toArray r.toArray ∧ SortedIn ltInt a b r.toArray := by
  obtain ⟨k, hk⟩ := C.ins l a b hab (by rw [hR.len]; exact hb) (by rw [hR.len]; exact hn)
  refine (slices_insertionSortOrdered_byte.calls k (fun _ => True) _ l a b _ w0 W hR.below hR.row hk).mono (fun e w' h => ⟨h.1, _, RB.after h.2.1 h.2.2.1, ?_⟩)
  exact insertionSort_holds swo_ltInt l.toArray a b hab (by rw [hR.size]; exact hb)
theorem heap_c (C : Same) (hn : n < 4611686018427387904) (l : List Int) (a b : Nat) (W : World) (hR : RB w0 g n cp W l) (hab : a ≤ b) (hb : b ≤ n) :
    Calls Try.prog 91 #[.slice (some ⟨g, 0, none⟩) n cp, .int .i64 a, .int .i64 b] W fun e w' => e = .returned (.tuple #[]) ∧ ∃ r : List Int, RB w0 g n cp w' r ∧ PermIn a b l.toArray r.toArray ∧ SortedIn ltInt a b r.toArray := by
  obtain ⟨k, hk⟩ := C.heap l a b hab (by rw [hR.len]; exact hb) (by rw [hR.len]; exact hn)
  refine (slices_heapSortOrdered_byte.calls k (fun _ => True) _ l a b _ w0 W hR.below hR.row hk).mono (fun e w' h => ⟨h.1, _, RB.after h.2.1 h.2.2.1, ?_⟩)
  exact heapSort_holds swo_ltInt l.toArray a b hab (by rw [hR.size]; exact hb)
theorem rev_c (C : Same) (hn : n < 4611686018427387904) (l : List Int) (a b : Nat) (W : World) (hR : RB w0 g n cp W l) (hab : a ≤ b) (hb : b ≤ n) :
    Calls Try.prog 94 #[.slice (some ⟨g, 0, none⟩) n cp, .int .i64 a, .int .i64 b] W fun e w' => e = .returned (.tuple #[]) ∧ ∃ r : List Int, RB w0 g n cp w' r ∧ PermIn a b l.toArray r.toArray := by
  obtain ⟨k, hk⟩ := C.rev l a b hab (by rw [hR.len]; exact hb) (by rw [hR.len]; exact hn)
  refine (slices_reverseRangeOrdered_byte.calls k (fun _ => True) _ l a b _ w0 W hR.below hR.row hk).mono (fun e w' h => ⟨h.1, _, RB.after h.2.1 h.2.2.1, ?_⟩)
  exact reverseRange_holds l.toArray a b hab (by rw [hR.size]; exact hb)
theorem pin_c (C : Same) (hn : n < 4611686018427387904) (l : List Int) (a b : Nat) (W : World) (hR : RB w0 g n cp W l) (hab : a < b) (hb : b ≤ n) (hB : Go.Sort.Below ltInt a b l.toArray) :
    Calls Try.prog 95 #[.slice (some ⟨g, 0, none⟩) n cp, .int .i64 a, .int .i64 b] W fun e w' => ∃ (ok : Bool) (r : List Int), e = .returned (.bool ok) ∧ RB w0 g n cp w' r ∧ PermIn a b l.toArray r.toArray ∧ (ok = true → SortedIn ltInt a b r.toArray) := by
  obtain ⟨k, hk⟩ := C.pin l a b hab (by rw [hR.len]; exact hb) (by rw [hR.len]; exact hn)
  refine (slices_partialInsertionSortOrdered_byte.calls k (fun _ => True) _ l a b _ _ w0 W hR.below hR.row hk).mono (fun e w' h => ⟨_, _, h.1, RB.after h.2.1 h.2.2.1, ?_⟩)
  exact partialInsertionSort_holds swo_ltInt l.toArray a b hab (by rw [hR.size]; exact hb) hB
theorem peq_c (C : Same) (hn : n < 4611686018427387904) (l : List Int) (a b p : Nat) (W : World) (hR : RB w0 g n cp W l) (h0 : 0 < a) (hp1 : a ≤ p) (hp2 : p < b) (hb : b ≤ n) (hB : Go.Sort.Below ltInt a b l.toArray) (hnl : ltInt l.toArray[a - 1]! l.toArray[p]! = false) :
    Calls Try.prog 97 #[.slice (some ⟨g, 0, none⟩) n cp, .int .i64 a, .int .i64 b, .int .i64 p] W fun e w' => ∃ (mid : Nat) (r : List Int), e = .returned (.int .i64 mid) ∧ a < mid ∧ mid ≤ b ∧ RB w0 g n cp w' r ∧ Go.Sort.Below ltInt mid b r.toArray ∧
      ∀ R, PermIn mid b r.toArray R → SortedIn ltInt mid b R → PermIn a b l.toArray R ∧ SortedIn ltInt a b R := by
  obtain ⟨k, hk⟩ := C.peq l a b p hp1 hp2 (by rw [hR.len]; exact hb) (by rw [hR.len]; exact hn)
  obtain ⟨mid, d4, hx⟩ : ∃ mid d4, partitionEqual ltInt l.toArray a b p = (mid, d4) := ⟨_, _, rfl⟩
  obtain ⟨r1, r2, r3, r4, r5⟩ := round_eq swo_ltInt (partitionEqual_holds _) h0 hp1 hp2 (by rw [hR.size]; exact hb) hB hnl hx
  rw [hx] at hk
  refine (slices_partitionEqualOrdered_byte.calls k (fun _ => True) _ l a b p _ _ w0 W hR.below hR.row hk).mono (fun e w' h => ⟨mid, d4.toList, h.1, r1, r2, RB.after h.2.1 h.2.2.1, r4, r5⟩)
theorem prt_c (C : Same) (hn : n < 4611686018427387904) (l : List Int) (a b p : Nat) (W : World) (hR : RB w0 g n cp W l) (hp1 : a ≤ p) (hp2 : p < b) (hb : b ≤ n) (hB : Go.Sort.Below ltInt a b l.toArray) :
    Calls Try.prog 98 #[.slice (some ⟨g, 0, none⟩) n cp, .int .i64 a, .int .i64 b, .int .i64 p] W fun e w' => ∃ (mid : Nat) (ap : Bool) (r : List Int), e = .returned (.tuple #[.int .i64 mid, .bool ap]) ∧ a ≤ mid ∧ mid < b ∧ RB w0 g n cp w' r ∧
      Go.Sort.Below ltInt a mid r.toArray ∧ Go.Sort.Below ltInt (mid + 1) b r.toArray ∧
      (∀ L, PermIn a mid r.toArray L → SortedIn ltInt a mid L → Go.Sort.Below ltInt (mid + 1) b L ∧ ∀ R, PermIn (mid + 1) b L R → SortedIn ltInt (mid + 1) b R → PermIn a b l.toArray R ∧ SortedIn ltInt a b R) ∧
      (∀ L, PermIn (mid + 1) b r.toArray L → SortedIn ltInt (mid + 1) b L → Go.Sort.Below ltInt a mid L ∧ ∀ R, PermIn a mid L R → SortedIn ltInt a mid R → PermIn a b l.toArray R ∧ SortedIn ltInt a b R) := by
  obtain ⟨k, hk⟩ := C.prt l a b p hp1 hp2 (by rw [hR.len]; exact hb) (by rw [hR.len]; exact hn)
  obtain ⟨mid, ap, d4, hx⟩ : ∃ mid ap d4, partition ltInt l.toArray a b p = (mid, ap, d4) := ⟨_, _, _, rfl⟩
  obtain ⟨r1, r2, r3, r4, r5, r6, r7⟩ := round_part swo_ltInt (partition_holds _) hp1 hp2 (by rw [hR.size]; exact hb) hB hx
  rw [hx] at hk
  refine (slices_partitionOrdered_byte.calls k (fun _ => True) _ l a b p _ _ _ w0 W hR.below hR.row hk).mono (fun e w' h => ⟨mid, ap, d4.toList, h.1, r1, r2, RB.after h.2.1 h.2.2.1, r4, r5, r6, r7⟩)
end

set_option maxHeartbeats 6400000 in
set_option maxRecDepth 1000000 in
theorem pdq_b (C : Same) (w0 : World) (g n cp : Nat) (hn : n < 4611686018427387904) : ∀ (N a b lim : Nat) (l : List Int) (w : World), b - a < N → RB w0 g n cp w l → a ≤ b → b ≤ n → lim < 4611686018427387904 → Go.Sort.Below ltInt a b l.toArray →
    Calls Try.prog 82 #[.slice (some ⟨g, 0, none⟩) n cp, .int .i64 a, .int .i64 b, .int .i64 lim] w fun e w' => e = .returned (.tuple #[]) ∧ ∃ r : List Int, RB w0 g n cp w' r ∧ PermIn a b l.toArray r.toArray ∧ SortedIn ltInt a b r.toArray := by
  intro N
  induction N with
  | zero => intro _ _ _ _ _ h; exact absurd h (Nat.not_lt_zero _)
  | succ N ih =>
    intro a b lim l w hN hR hab hb hlim hBel0
    have IH := Aside0.mk ih
    have CC := Aside0.mk C
    have HR := Aside0.mk hR
    have HB0 := Aside0.mk hBel0
    clear ih C hR hBel0
    go_enter Try.func82, Try.ntmps82
    go_wp2
    go_loopg [1, 2, 3, 8, 9] (b - a) (fun k s1 s2 s3 s8 s9 wr => ∃ (a' b' lm : Nat) (wb wp : Bool) (l' : List Int), s1 = .int .i64 a' ∧ s2 = .int .i64 b' ∧ s3 = .int .i64 lm ∧ s8 = .bool wb ∧ s9 = .bool wp ∧
      a' ≤ b' ∧ b' ≤ n ∧ b' - a' ≤ k ∧ k ≤ b - a ∧ lm ≤ lim ∧ Aside0 (Go.Sort.Below ltInt a' b' l'.toArray) ∧ Aside0 (RB w0 g n cp wr l') ∧ Aside0 (∀ R, PermIn a' b' l'.toArray R → SortedIn ltInt a' b' R → PermIn a b l.toArray R ∧ SortedIn ltInt a b R))
    case atStart => exact ⟨a, b, lim, true, true, l, rfl, rfl, rfl, rfl, rfl, hab, hb, Nat.le_refl _, Nat.le_refl _, Nat.le_refl _, HB0, HR, ⟨fun R h1 h2 => ⟨h1, h2⟩⟩⟩
    case round =>
      obtain ⟨a', b', lm, wb, wp, l', rfl, rfl, rfl, rfl, rfl, hab', hb', hk, hkN, hlm, hBel, hAt, hgo⟩ := hrel
      by_cases h12 : b' - a' ≤ 12
      · have h12z : (b' : Int) - (a' : Int) ≤ 12 := by omega
        have hc := Aside0.mk (ins_c CC.out hn l' a' b' wr hAt.out hab' hb')
        go_wp2_with (go_at_call 90; (with_reducible refine hc.out.mono ?_); rintro e w1 ⟨rfl, r, hr, hp, hs⟩)
        (try simp only [Exit.inBlock, Exit.then]); refine bodyPost_ret (results_none rfl _ _ _) rfl ?_
        exact ⟨rfl, r, hr, hgo.out _ hp hs⟩
      · have h12z : ¬ ((b' : Int) - (a' : Int) ≤ 12) := by omega
        by_cases hl0 : lm = 0
        · subst hl0
          have hc := Aside0.mk (heap_c CC.out hn l' a' b' wr hAt.out hab' hb')
          go_wp2_with (go_at_call 91; (with_reducible refine hc.out.mono ?_); rintro e w1 ⟨rfl, r, hr, hp, hs⟩)
          (try simp only [Exit.inBlock, Exit.then]); refine bodyPost_ret (results_none rfl _ _ _) rfl ?_
          exact ⟨rfl, r, hr, hgo.out _ hp hs⟩
        · have hl0z : ¬ ((lm : Int) = 0) := by omega
          go_upto_if 35 with fail
          -- the ways meet behind the breaking of patterns
          go_cut [3] from 19 (fun s3 wc => ∃ (lm1 : Nat) (l1 : List Int), s3 = .int .i64 lm1 ∧ lm1 ≤ lm ∧ Aside0 (RB w0 g n cp wc l1) ∧ Aside0 (PermIn a' b' l'.toArray l1.toArray))
          case first =>
            cases wb
            · have hc := Aside0.mk (break_b w0 g n cp a' b' l' wr hAt.out hab' hb' hn)
              go_wp2_with (go_at_call 92; (with_reducible refine hc.out.mono ?_); rintro e w1 ⟨rfl, l1, hp, hr⟩)
              go_meet
              case rel =>
                refine ⟨lm - 1, l1, ?_, by omega, ⟨hr⟩, ⟨hp⟩⟩
                show Value.int .i64 ((lm : Int) - 1) = Value.int .i64 ((lm - 1 : Nat) : Int)
                congr 1
                omega
            · go_wp2_with fail
              go_meet
              case rel => exact ⟨lm, l', rfl, Nat.le_refl _, hAt, ⟨permIn_refl _ _ _⟩⟩
          case rest =>
            obtain ⟨lm1, l1, rfl, hlm1, hR1, hP1⟩ := hcut
            have hBel1 := Aside0.mk (Go.Sort.Below.perm hBel.out (by rw [hAt.out.size]; exact hb') hP1.out)
            have hc17 := Aside0.mk (pivot_b g n cp a' b' (fun j => l1.toArray[j]!) wc hR1.out.cell hR1.out.holds.2.1 (by omega) hb' hn)
            go_upto_if 50 with (go_at_call 93; (with_reducible refine hc17.out.mono ?_); rintro e w2 ⟨pv, hi, rfl, hpa, hpb, hw2⟩)
            have hR2 := Aside0.mk (hR1.out.step hw2)
            -- the ways meet behind the reversal
            go_cut [11, 12] from 19 (fun s11 s12 wc => ∃ (p : Nat) (h : Int) (l2 : List Int), s11 = .int .i64 p ∧ s12 = .int .i64 h ∧ a' ≤ p ∧ p < b' ∧ Aside0 (RB w0 g n cp wc l2) ∧ Aside0 (PermIn a' b' l1.toArray l2.toArray))
            case first =>
              by_cases hh : hi = 2
              · subst hh
                have hc18 := Aside0.mk (rev_c CC.out hn l1 a' b' w2 hR2.out hab' hb')
                go_wp2_with (go_at_call 94; (with_reducible refine hc18.out.mono ?_); rintro e w3 ⟨rfl, l2, hr, hp⟩)
                go_meet
                case rel =>
                  refine ⟨(b' - 1) - (pv - a'), 1, l2, ?_, rfl, by omega, by omega, ⟨hr⟩, ⟨hp⟩⟩
                  congr 1
                  omega
              · go_wp2_with fail
                go_meet
                case rel => exact ⟨pv, hi, l1, rfl, rfl, hpa, hpb, hR2, ⟨permIn_refl _ _ _⟩⟩
            case rest =>
              obtain ⟨p, h, l2, rfl, rfl, hp1, hp2, hR3, hP2⟩ := hcut
              have hBel2 := Aside0.mk (Go.Sort.Below.perm hBel1.out (by rw [hR1.out.size]; exact hb') hP2.out)
              -- the test of three: some boolean
              go_upto_region 15 with fail
              go_cut [12, 68] from 19 (fun s12 s68 wx => ∃ t : Bool, s12 = .int .i64 h ∧ s68 = .bool t ∧ wx = wc)
              case first =>
                by_cases h1 : h = 1
                all_goals
                  cases wb <;> cases wp <;>
                    (go_wp2_with fail
                     go_meet
                     exact ⟨_, rfl, rfl, rfl⟩)
              case rest =>
                obtain ⟨t, rfl, rfl, rfl⟩ := hcut
                -- the ways meet behind the partial insertion sort (one returns)
                go_upto_if 68 with fail
                go_cut [] from 19 (fun wx => ∃ l3 : List Int, Aside0 (RB w0 g n cp wx l3) ∧ Aside0 (PermIn a' b' l2.toArray l3.toArray))
                case first =>
                  cases t
                  · go_wp2_with fail
                    go_meet
                    case rel => exact ⟨l2, hR3, ⟨permIn_refl _ _ _⟩⟩
                  · have hc19 := Aside0.mk (pin_c CC.out hn l2 a' b' wc hR3.out (by omega) hb' hBel2.out)
                    go_wp2_with (go_at_call 95; (with_reducible refine hc19.out.mono ?_); rintro e w4 ⟨ok, l3, rfl, hr, hp, hs⟩)
                    all_goals first
                      | (have hok : ok = true := by assumption
                         (try simp only [Exit.inBlock, Exit.then]); refine bodyPost_ret (results_none rfl _ _ _) rfl ?_
                         exact ⟨rfl, l3, hr, hgo.out _ (permIn_trans _ _ _ _ _ hP1.out (permIn_trans _ _ _ _ _ hP2.out hp)) (hs hok)⟩)
                      | (go_meet
                         exact ⟨l3, ⟨hr⟩, ⟨hp⟩⟩)
                case rest =>
                  obtain ⟨l3, hR5, hP3⟩ := hcut
                  have hBel3 := Aside0.mk (Go.Sort.Below.perm hBel2.out (by rw [hR3.out.size]; exact hb') hP3.out)
                  have hPP := Aside0.mk (permIn_trans _ _ _ _ _ hP1.out (permIn_trans _ _ _ _ _ hP2.out hP3.out))
                  obtain ⟨F, hF⟩ : ∃ F : Nat → Int, ∀ x, F x = l3.toArray[x]! := ⟨fun x => l3.toArray[x]!, fun _ => rfl⟩
                  have hcw : ∀ x, x < n → wc.cell? ⟨g, x, none⟩ = some (.int .u8 (F x)) := fun x hx => by rw [hF]; exact hR5.out.cell x hx
                  have HF := Aside0.mk hF
                  clear hF
                  go_upto_region 17 with fail
                  -- the test ahead of the partitions
                  go_cut [87] from 19 (fun s87 wx => ∃ t : Bool, s87 = .bool t ∧ Aside0 (RB w0 g n cp wx l3) ∧ Aside0 (t = true → 0 < a' ∧ ltInt l3.toArray[a' - 1]! l3.toArray[p]! = false))
                  case first =>
                    rcases Nat.eq_zero_or_pos a' with ha0 | ha0
                    · have ha0z : decide ((a' : Int) > 0) = false := decide_eq_false (by omega)
                      go_big_quiet (first | (go_at_call 96; refine Calls.quiet_of_same (less_b _ _ _)))
                      go_wp2_with fail
                      go_meet
                      case rel => exact ⟨false, by simp [ha0], ⟨hR5.out.drewN nq⟩, ⟨fun h => by cases h⟩⟩
                    · have ha0z : (a' : Int) > 0 := by omega
                      have j1 : a' - 1 < n := by omega
                      have j2 : p < n := by omega
                      have j3 : (0 : Int) ≤ (a' : Int) - 1 := by omega
                      have j4 : (a' : Int) - 1 < (n : Int) := by omega
                      have j5 : (p : Int) < (n : Int) := by omega
                      have c1 := hcw _ j1
                      have c2 := hcw _ j2
                      clear hcw
                      go_big_quiet (first | (go_at_call 96; refine Calls.quiet_of_same (less_b _ _ _)))
                      go_wp2_with fail
                      go_meet
                      case rel => exact ⟨!ltInt (F (a' - 1)) (F p), by simp [ha0], ⟨hR5.out.drewN nq⟩, ⟨fun h => ⟨ha0, by rw [← HF.out, ← HF.out]; simpa using h⟩⟩⟩
                  case rest =>
                    obtain ⟨t2, rfl, hR6, hT⟩ := hcut
                    clear hcw
                    cases t2
                    · have hc22 := Aside0.mk (prt_c CC.out hn l3 a' b' p wc hR6.out hp1 hp2 hb' hBel3.out)
                      go_upto_if 113 with (go_at_call 98; (with_reducible refine hc22.out.mono ?_); rintro e w7 ⟨mid, ap, l4, rfl, r1, r2, r3, r4, r5, r6, r7⟩)
                      have R3 := Aside0.mk r3
                      have R4 := Aside0.mk r4
                      have R5 := Aside0.mk r5
                      have R6 := Aside0.mk r6
                      have R7 := Aside0.mk r7
                      clear r3 r4 r5 r6 r7
                      by_cases h4 : mid - a' < b' - mid
                      · have h4z : (mid : Int) - (a' : Int) < (b' : Int) - (mid : Int) := by omega
                        have hih := Aside0.mk (IH.out a' mid lm1 l4 w7 (by omega) R3.out r1 (by omega) (by omega) R4.out)
                        go_wp2_with (go_at_call 82; (with_reducible refine hih.out.mono ?_); rintro e w8 ⟨rfl, l5, hr8, hp8, hs8⟩)
                        go_roundg (b' - (mid + 1))
                        case measure => omega
                        case rel =>
                          obtain ⟨q1, q2⟩ := R6.out _ hp8 hs8
                          refine ⟨mid + 1, b', lm1, _, ap, l5, by simp, rfl, rfl, rfl, rfl, by omega, by omega, Nat.le_refl _, by omega, by omega, ⟨q1⟩, ⟨hr8⟩, ⟨fun R h1 h2 => ?_⟩⟩
                          obtain ⟨z1, z2⟩ := q2 R h1 h2
                          exact hgo.out R (permIn_trans _ _ _ _ _ hPP.out z1) z2
                      · have h4z : ¬ ((mid : Int) - (a' : Int) < (b' : Int) - (mid : Int)) := by omega
                        have hih := Aside0.mk (IH.out (mid + 1) b' lm1 l4 w7 (by omega) R3.out (by omega) (by omega) (by omega) R5.out)
                        go_wp2_with (go_at_call 82; refine hih.out.mono ?_; rintro e w8 ⟨rfl, l5, hr8, hp8, hs8⟩)
                        go_roundg (mid - a')
                        case measure => omega
                        case rel =>
                          obtain ⟨q1, q2⟩ := R7.out _ hp8 hs8
                          refine ⟨a', mid, lm1, _, ap, l5, rfl, rfl, rfl, rfl, rfl, by omega, by omega, Nat.le_refl _, by omega, by omega, ⟨q1⟩, ⟨hr8⟩, ⟨fun R h1 h2 => ?_⟩⟩
                          obtain ⟨z1, z2⟩ := q2 R h1 h2
                          exact hgo.out R (permIn_trans _ _ _ _ _ hPP.out z1) z2
                    · obtain ⟨ha0, hnl⟩ := hT.out rfl
                      have hc21 := Aside0.mk (peq_c CC.out hn l3 a' b' p wc hR6.out ha0 hp1 hp2 hb' hBel3.out hnl)
                      clear hnl
                      go_wp2_with (go_at_call 97; (with_reducible refine hc21.out.mono ?_); rintro e w7 ⟨mid, l4, rfl, r1, r2, r3, r4, r5⟩)
                      go_roundg (b' - mid)
                      case measure => omega
                      case rel =>
                        refine ⟨mid, b', lm1, wb, wp, l4, rfl, rfl, rfl, rfl, rfl, r2, hb', Nat.le_refl _, by omega, by omega, ⟨r4⟩, ⟨r3⟩, ⟨fun R h1 h2 => ?_⟩⟩
                        obtain ⟨z1, z2⟩ := r5 R h1 h2
                        exact hgo.out R (permIn_trans _ _ _ _ _ hPP.out z1) z2

end Go.Proofs.Ytippkbjdifmdnaa.PF
