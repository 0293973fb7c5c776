/- Given for the print: the list whose standard word a word is, by hand: a function that calls itself in a loop without end, and a function value that writes what it captured. -/
import Derived.Test.YtippkbjdifmdnaaDoorPFGivA
import Derived.Test.YtippkbjdifmdnaaDoorPFGivT
import Derived.Test.YtippkbjdifmdnaaDoorPFGivK
import Derived.Test.YtippkbjdifmdnaaDoorPFx16
import Derived.Test.YtippkbjdifmdnaaDoorPFx9
import Derived.Test.YtippkbjdifmdnaaDoorPFx19
namespace Go.Proofs.YtippkbjdifmdnaaDoor.PF
open Go.RowKit Go.Proofs.YtippkbjdifmdnaaDoorW.PrintWords Go.Proofs.YtippkbjdifmdnaaDoorW.PrintLast Go.Proofs.YtippkbjdifmdnaaDoorW.PrintMore
attribute [local go_sem] max2_int min2_int max_two min_two max_three min_three max_four min_four   -- for this text's walks alone
set_option linter.unusedVariables false
set_option linter.unusedSimpArgs false

/-- What the two captured variables hold: was a list found, and the best one. -/
abbrev Fnd := Bool × List Int
/-- A word is reached: its list is taken if it is better. -/
def stdD (k : Nat) (w own : ByteArray) (list : List Int) (s : Fnd) : Option Fnd := if own.toList = w.toList then ((bestB k list s.1 s.2).bind fun b => some (if b = true then (true, list) else s)) else some s
/-- All lists that go on from one: the loop over its next number. -/
def stdL (w : ByteArray) : Nat → ByteArray → ByteArray → List Int → Int → Fnd → Option Fnd
  | 0, _, _, _, _, _ => none
  | k + 1, last, own, list, d, s => (strings_Repeat.f own d).bind fun r => if r.size + last.size ≤ 9223372036854775807 then
      (if (w.size : Int) < ((r ++ last).size : Int) then some s else if (list.length : Int) = 20 then some s else
        ((strings_HasPrefix.f w (r ++ last)).bind fun b => if b = true then
          ((slices_Clone_int64_int64.f list).bind fun l2 => if l2.length < 17592186044416 then (((stdD k w (r ++ last) (l2 ++ [d]) s).bind fun s1 => stdL w k own (r ++ last) (l2 ++ [d]) (if ((l2 ++ [d]).length : Int) < 1 then ((l2 ++ [d]).length : Int) else 1) s1).bind fun s2 => stdL w k last own list (wrap64 (d + 1)) s2) else none)
          else stdL w k last own list (wrap64 (d + 1)) s)) else none
def stdE (k : Nat) (w last own : ByteArray) (list : List Int) (s : Fnd) : Option Fnd := (stdD k w own list s).bind fun s1 => stdL w k last own list (if (list.length : Int) < 1 then (list.length : Int) else 1) s1
def impl_ListOfStandard.f (k : Nat) (w : ByteArray) : Option (List Int × Int) := (impl_isTwo.f w).bind fun b => if b = true then ((stdE k w ⟨#[98]⟩ ⟨#[97]⟩ [] (false, [])).bind fun s => if s.1 = true then some (s.2, 0) else some ([], 5)) else some ([], 1)

theorem bestB.mono : ∀ l a b k, LeO (bestB k l a b) (bestB (k + 1) l a b) := fun l a b k =>
  LeO.ite (LeO.bind (LeO.refl _) fun _ => LeO.bind (slices_Compare_int64_int64.mono _ _ _) fun _ => LeO.bind (cmp_Or_int.mono _ _) fun _ => LeO.refl _) (LeO.refl _)
theorem stdD.mono : ∀ w own l s k, LeO (stdD k w own l s) (stdD (k + 1) w own l s) := fun w own l s k =>
  LeO.ite (LeO.bind (bestB.mono _ _ _ _) fun _ => LeO.refl _) (LeO.refl _)
theorem stdL.mono (w : ByteArray) : ∀ k last own l d s, LeO (stdL w k last own l d s) (stdL w (k + 1) last own l d s) := by
  intro k
  induction k with
  | zero => exact fun _ _ _ _ _ => LeO.none _
  | succ k ih =>
    intro last own l d s
    exact LeO.bind (LeO.refl _) fun r => LeO.ite (LeO.ite (LeO.refl _) (LeO.ite (LeO.refl _) (LeO.bind (LeO.refl _) fun b => LeO.ite (LeO.bind (LeO.refl _) fun l2 => LeO.ite (LeO.bind (LeO.bind (stdD.mono _ _ _ _ _) fun s1 => ih _ _ _ _ _) fun s2 => ih _ _ _ _ _) (LeO.refl _)) (ih _ _ _ _ _)))) (LeO.refl _)
theorem impl_ListOfStandard.mono : ∀ w k, LeO (impl_ListOfStandard.f k w) (impl_ListOfStandard.f (k + 1) w) := fun w k =>
  LeO.bind (LeO.refl _) fun b => LeO.ite (LeO.bind (LeO.bind (stdD.mono _ _ _ _ _) fun s1 => stdL.mono _ _ _ _ _ _ _) fun s => LeO.refl _) (LeO.refl _)

/-- What the two captured variables hold, in memory. -/
def StF (m g1 g2 : Nat) (W : World) (s : Fnd) : Prop := ∃ (A : Option Addr) (c : Nat), W.heap[g1]? = some (.cells #[.bool s.1] 4 (0, 0)) ∧ W.heap[g2]? = some (.cells #[.slice A s.2.length c] 22 (0, 0)) ∧ Kd.R (Kd.int .i64) 2 W m (fun k => k ≠ g1 ∧ k ≠ g2) (.slice A s.2.length c) s.2
theorem StF.below {m g1 g2 : Nat} {W W1 : World} {s : Fnd} (h : StF m g1 g2 W s) (hb : Below W.heap.size W W1) : StF m g1 g2 W1 s := by
  obtain ⟨A, c, h1, h2, h3⟩ := h
  exact ⟨A, c, blk_below h1 hb, blk_below h2 hb, Kd.R_below h3 hb⟩
theorem Only2.kept {g1 g2 : Nat} {W W1 : World} (h : Only2 g1 g2 W W1) : Kept W W1 (fun k => k = g1 ∨ k = g2) := ⟨h.size, fun i hi hn => h.block i hi (fun e => hn (.inl e)) (fun e => hn (.inr e))⟩
theorem Only2.row {m g1 g2 : Nat} {W W1 : World} (h : Only2 g1 g2 W W1) {v : Value} {l : List Int} (hr : Kd.R (Kd.int .i64) 2 W m (fun k => k ≠ g1 ∧ k ≠ g2) v l) : Kd.R (Kd.int .i64) 2 W1 m (fun k => k ≠ g1 ∧ k ≠ g2) v l :=
  Kd.R_kept hr h.kept fun k hk hs => hs.elim hk.1 hk.2

theorem Only2.base {m g1 g2 : Nat} {w0 W W1 : World} (h : Only2 g1 g2 W W1) (hb : Below m w0 W) (hm : m ≤ W.heap.size) (h1 : m ≤ g1) (h2 : m ≤ g2) : Below m w0 W1 :=
  ⟨h.os.trans hb.os, h.tape.trans hb.tape, h.output.trans hb.output, Nat.le_trans hb.size h.size, fun k hk => (h.block k (by omega) (by omega) (by omega)).trans (hb.block k hk)⟩
theorem StF.lt {m g1 g2 : Nat} {W : World} {s : Fnd} (h : StF m g1 g2 W s) : g1 < W.heap.size ∧ g2 < W.heap.size := by
  obtain ⟨A, c, h1, h2, h3⟩ := h
  exact ⟨blk_lt h1, blk_lt h2⟩

/-- The function value's call, in these words. -/
theorem best_step {m g1 g2 : Nat} (k : Nat) (W : World) (A : Option Addr) (c : Nat) (l : List Int) (s r : Fnd) (hs : StF m g1 g2 W s) (hl : Kd.R (Kd.int .i64) 2 W m (fun k => k ≠ g1 ∧ k ≠ g2) (.slice A l.length c) l) (h : (bestB k l s.1 s.2).bind (fun b => some (if b = true then (true, l) else s)) = some r) :
    Calls Tryd.prog 13 #[.slice A l.length c, .pointer (some ⟨g1, 0, none⟩), .pointer (some ⟨g2, 0, none⟩)] W fun e W' => e = .returned (.tuple #[]) ∧ StF m g1 g2 W' r ∧ Only2 g1 g2 W W' := by
  obtain ⟨A2, c2, h1, h2, h3⟩ := hs
  obtain ⟨b, hb, hr⟩ := Option.bind_eq_some_iff.mp h
  obtain rfl := Option.some.inj hr
  have hbf : ∃ u, impl_ListOfStandard_1.f k l s.1 s.2 = some u := by
    unfold bestB at hb
    unfold impl_ListOfStandard_1.f
    by_cases c4 : s.1 = true
    · rw [if_pos c4] at hb ⊢
      obtain ⟨t1, e1, hb⟩ := Option.bind_eq_some_iff.mp hb
      obtain ⟨t2, e2, hb⟩ := Option.bind_eq_some_iff.mp hb
      obtain ⟨t3, e3, hb⟩ := Option.bind_eq_some_iff.mp hb
      exact ⟨(), by rw [e1, Option.bind_some, e2, Option.bind_some, e3, Option.bind_some]; split <;> rfl⟩
    · rw [if_neg c4]; exact ⟨(), rfl⟩
  obtain ⟨u, hu⟩ := hbf
  refine (impl_ListOfStandard_1.calls k A c l g1 s.1 g2 A2 c2 s.2 W (Kd.R_reads' hl).2.2 (Kd.R_reads' hl).2.1 h1 h2 (Kd.R_reads' h3).2.2 (Kd.R_reads' h3).2.1 hu).mono ?_
  rintro e W' ⟨rfl, hq, ho⟩
  obtain ⟨q1, q2⟩ := hq b hb
  refine ⟨rfl, ?_, ho⟩
  cases b with
  | true => exact ⟨A, c, by simpa using q1, by simpa using q2, ho.row hl⟩
  | false => exact ⟨A2, c2, by simpa using q1, by simpa using q2, ho.row h3⟩

set_option maxHeartbeats 8000000 in
set_option maxRecDepth 100000 in
theorem standardLists_calls (w0 : World) (g1 g2 : Nat) (hg1 : w0.heap.size ≤ g1) (hg2 : w0.heap.size ≤ g2) (w : ByteArray) : ∀ (k : Nat) (last own : ByteArray) (list : List Int) (v : Value) (s r : Fnd) (W : World), Below w0.heap.size w0 W →
    StF w0.heap.size g1 g2 W s → Kd.R (Kd.int .i64) 2 W w0.heap.size (fun k => k ≠ g1 ∧ k ≠ g2) v list → stdE k w last own list s = some r →
    Calls Tryd.prog 12 #[.string w, .string last, .string own, v, .func (.func 13) #[] #[.pointer (some ⟨g1, 0, none⟩), .pointer (some ⟨g2, 0, none⟩)]] W fun e W' => e = .returned (.tuple #[]) ∧ StF w0.heap.size g1 g2 W' r ∧ Only2 g1 g2 W W' := by
  intro k
  induction k using Nat.strongRecOn with
  | _ k ih =>
    intro last own list v s r W hW hs hl h
    obtain ⟨A0, c0, rfl⟩ := Kd.R_slice hl
    obtain ⟨s1, hD, hL⟩ := Option.bind_eq_some_iff.mp h
    clear h
    have HL := Aside0.mk hL
    have IH := Aside0.mk ih
    have HR := Aside0.mk hl
    have HS := Aside0.mk hs
    have HW := Aside0.mk hW
    have IH := Aside0.mk ih
    have HO := Aside0.mk (Only2.of_below (g := g1) (h := g2) (Below.refl W.heap.size W))
    have HL := Aside0.mk hL
    clear ih hl hs hW hL
    unfold stdD at hD
    by_cases c1 : own.toList = w.toList
    case' pos =>
      rw [if_pos c1] at hD
      have c1b0 : (own.toList == w.toList) = true := beq_iff_eq.mpr c1
      have c1b1 := eq_true c1
      have hcall := Aside0.mk (fun W' hs hl => best_step (m := w0.heap.size) (g1 := g1) (g2 := g2) k W' A0 c0 list s s1 hs hl hD)
      clear hD c1
      go_enter Tryd.func12, Tryd.ntmps12
      go_wp2_with (go_at_fn 13)
      refine (hcall.out _ HS.out HR.out).mono ?_
      rintro e w2 ⟨rfl, hS2, hO2⟩
      have HS2 := Aside0.mk hS2
      have HR2 := Aside0.mk (hO2.row HR.out)
      have HO2 := Aside0.mk (HO.out.trans hO2)
      clear HS HR HO hS2 hO2 hcall
      have HS := HS2
      have HR := HR2
      have HO := HO2
      clear HS2 HR2 HO2
      dsimp only
      go_wp2
    case' neg =>
      rw [if_neg c1] at hD
      obtain rfl := Option.some.inj hD
      have c1b0 : (own.toList == w.toList) = false := beq_eq_false_iff_ne.mpr c1
      have c1b1 := eq_false c1
      clear hD c1
      go_enter Tryd.func12, Tryd.ntmps12
      go_wp2
    all_goals
      go_loopg [11, 12] k (fun kq v11 _ wr => ∃ (d : Int) (s2 : Fnd), v11 = .int .i64 d ∧ Aside0 (stdL w kq last own list d s2 = some r) ∧ Aside0 (kq ≤ k) ∧ Aside0 (StF w0.heap.size g1 g2 wr s2) ∧ Aside0 (Kd.R (Kd.int .i64) 2 wr w0.heap.size (fun k => k ≠ g1 ∧ k ≠ g2) (.slice A0 list.length c0) list) ∧ Aside0 (Only2 g1 g2 W wr))
      case atStart => exact ⟨_, _, rfl, ⟨by have h_ := HL.out; first | exact h_ | (rw [show (if (list.length : Int) < 1 then (list.length : Int) else 1) = 1 by split <;> omega] at h_; exact h_) | (rw [show (if (list.length : Int) < 1 then (list.length : Int) else 1) = (list.length : Int) by split <;> omega] at h_; exact h_)⟩, ⟨Nat.le_refl _⟩, ⟨by first | exact HS.out | exact HS.out.below (by repeat (first | exact Below.refl _ _ | apply below_alloc | apply pw_below_drewN | apply below_drew1))⟩, ⟨by (with_reducible repeat (first | apply Kd.R_alloc | apply Kd.R_drewN | apply Kd.R_drew)); exact HR.out⟩, ⟨by first | exact HO.out | exact HO.out.trans (Only2.of_below (by repeat (first | exact Below.refl _ _ | apply below_alloc | apply pw_below_drewN | apply below_drew1)))⟩⟩
      case round =>
        clear HL HS HR HO
        obtain ⟨d, s2, rfl, HA, HK1, HS, HR, HO⟩ := hrel
        cases gk with
        | zero => exact absurd HA.out (by simp [stdL])
        | succ k1 =>
          have H := HA.out
          clear HA
          simp only [stdL] at H
          obtain ⟨rr, hrep, H⟩ := Option.bind_eq_some_iff.mp H
          have hlr := (Kd.R_reads' HR.out).1
          by_cases cz : rr.size + last.size ≤ 9223372036854775807
          case neg => rw [if_neg cz] at H; cases H
          rw [if_pos cz] at H
          have hsz : (rr ++ last).size = rr.size + last.size := ByteArray.size_append
          have cz0 := eq_true cz
          have cz2 : (9223372036854775807 < rr.size + last.size) = False := eq_false (Nat.not_lt.2 cz)
          have hR := Aside0.mk (fun W' => strings_Repeat.calls own d rr W' hrep)
          have HH := Aside0.mk H
          clear hrep H
          by_cases cA : (w.size : Int) < ((rr ++ last).size : Int)
          · have H := HH.out
            rw [if_pos cA] at H
            obtain rfl := Option.some.inj H
            rw [hsz] at cA
            have cA0 : decide ((w.size : Int) < ((rr.size + last.size : Nat) : Int)) = true := decide_eq_true cA
            have cA1 : decide (w.size < rr.size + last.size) = true := decide_eq_true (by omega)
            have cA2 : ((w.size : Int) < (rr.size : Int) + (last.size : Int)) = True := eq_true (by omega)
            have cA3 : decide ((w.size : Int) < (rr.size : Int) + (last.size : Int)) = true := decide_eq_true (by omega)
            clear H HH cA hsz
            go_wp2_with (first | (go_at_call 22; (with_reducible refine (hR.out _).mono ?_); rintro e w3 ⟨rfl, hb3⟩; have HS3 := Aside0.mk (HS.out.below (by repeat (first | exact hb3 | apply below_alloc | apply pw_below_drewN | apply below_drew1))); have HO3 := Aside0.mk (HO.out.trans (Only2.of_below (g := g1) (h := g2) hb3)); clear hb3))
            first | go_end0 | ((try simp only [Exit.inBlock, Exit.then]); refine bodyPost_ret (results_none rfl _ _ _) rfl ?_)
            exact ⟨rfl, HS3.out, HO3.out⟩
          · have H := HH.out
            rw [if_neg cA] at H
            rw [hsz] at cA
            have cA0 : decide ((w.size : Int) < ((rr.size + last.size : Nat) : Int)) = false := decide_eq_false cA
            have cA1 : decide (w.size < rr.size + last.size) = false := decide_eq_false (by omega)
            have cA2 : ((w.size : Int) < (rr.size : Int) + (last.size : Int)) = False := eq_false (by omega)
            have cA3 : decide ((w.size : Int) < (rr.size : Int) + (last.size : Int)) = false := decide_eq_false (by omega)
            clear HH cA hsz
            by_cases cB : (list.length : Int) = 20
            · rw [if_pos cB] at H
              obtain rfl := Option.some.inj H
              have cB0 : ((list.length : Int) == 20) = true := beq_iff_eq.mpr cB
              have cB1 : decide ((list.length : Int) = 20) = true := decide_eq_true cB
              have cB2 := eq_true cB
              clear H cB
              go_wp2_with (first | (go_at_call 22; (with_reducible refine (hR.out _).mono ?_); rintro e w3 ⟨rfl, hb3⟩; have HS3 := Aside0.mk (HS.out.below (by repeat (first | exact hb3 | apply below_alloc | apply pw_below_drewN | apply below_drew1))); have HO3 := Aside0.mk (HO.out.trans (Only2.of_below (g := g1) (h := g2) hb3)); clear hb3))
              first | go_end0 | ((try simp only [Exit.inBlock, Exit.then]); refine bodyPost_ret (results_none rfl _ _ _) rfl ?_)
              exact ⟨rfl, HS3.out, HO3.out⟩
            · rw [if_neg cB] at H
              have cB0 : ((list.length : Int) == 20) = false := beq_eq_false_iff_ne.mpr cB
              have cB1 : decide ((list.length : Int) = 20) = false := decide_eq_false cB
              have cB2 := eq_false cB
              clear cB
              obtain ⟨bp, hpf, H⟩ := Option.bind_eq_some_iff.mp H
              have hP := Aside0.mk (fun W' => strings_HasPrefix.calls w (rr ++ last) bp W' hpf)
              clear hpf
              cases bp with
              | false =>
                rw [if_neg (by simp)] at H
                have H' := Aside0.mk H
                clear H
                go_wp2_with (first
                  | (go_at_call 22; (with_reducible refine (hR.out _).mono ?_); rintro e w3 ⟨rfl, hb3⟩; have HS3 := Aside0.mk (HS.out.below hb3); have HR3 := Aside0.mk (Kd.R_below HR.out hb3); have HO3 := Aside0.mk (HO.out.trans (Only2.of_below (g := g1) (h := g2) hb3)); clear hb3)
                  | (go_at_call 23; (with_reducible refine (hP.out _).mono ?_); rintro e w4 ⟨rfl, hd4⟩; have hb4 := hd4.below; have HS4 := Aside0.mk (HS3.out.below hb4); have HR4 := Aside0.mk (Kd.R_below HR3.out hb4); have HO4 := Aside0.mk (HO3.out.trans (Only2.of_below (g := g1) (h := g2) hb4)); clear hb4 hd4))
                go_roundg k1
                case measure => have := HK1.out; omega
                case rel => exact ⟨_, s2, rfl, H', ⟨by have := HK1.out; omega⟩, HS4, HR4, HO4⟩
              | true =>
                rw [if_pos rfl] at H
                obtain ⟨l2, hcl, H⟩ := Option.bind_eq_some_iff.mp H
                by_cases cl : l2.length < 17592186044416
                case neg => rw [if_neg cl] at H; cases H
                rw [if_pos cl] at H
                obtain ⟨s3, hE, H⟩ := Option.bind_eq_some_iff.mp H
                have H' := Aside0.mk H
                have CL := Aside0.mk cl
                have HC := Aside0.mk (fun W' hr => slices_Clone_int64_int64.calls A0 c0 list l2 W' hr (by have := (Kd.R_reads' HR.out).2.1; exact this) hcl)
                have HE := Aside0.mk (show stdE k1 w own (rr ++ last) (l2 ++ [d]) s2 = some s3 from hE)
                clear H hcl hE cl
                go_wp2_with (first
                  | (go_at_call 22; (with_reducible refine (hR.out _).mono ?_); rintro e w3 ⟨rfl, hb3⟩; have HS3 := Aside0.mk (HS.out.below hb3); have HR3 := Aside0.mk (Kd.R_below HR.out hb3); have HO3 := Aside0.mk (HO.out.trans (Only2.of_below (g := g1) (h := g2) hb3)); clear hb3)
                  | (go_at_call 23; (with_reducible refine (hP.out _).mono ?_); rintro e w4 ⟨rfl, hd4⟩; have hb4 := hd4.below; have HS4 := Aside0.mk (HS3.out.below hb4); have HR4 := Aside0.mk (Kd.R_below HR3.out hb4); have HO4 := Aside0.mk (HO3.out.trans (Only2.of_below (g := g1) (h := g2) hb4)); clear hb4 hd4)
                  | (go_at_call 24; (refine (HC.out _ (Kd.R_reads' HR4.out).2.2).mono ?_); rintro e w5 ⟨v5, rfl, ho5, hb5⟩; have HB5 := Aside0.mk hb5; have HN5 := Aside0.mk ho5; have HS5 := Aside0.mk (HS4.out.below hb5); have HR5 := Aside0.mk (Kd.R_below HR4.out hb5); have HO5 := Aside0.mk (HO4.out.trans (Only2.of_below (g := g1) (h := g2) hb5)); have HBb5 := Aside0.mk (HO5.out.base HW.out HW.out.size hg1 hg2); clear ho5 hb5)
                  | ((with_reducible refine gate_builtin (b := .append) (xs := #[.tmp 47, .tmp 49]) rfl ?_); (try (refine gate_guard (by rfl) ?_; dsimp only)); at_builtin; refine Kd.R_append (Kd.int .i64) (w0 := w0) w0.heap.size rfl (.tmp 47) (.tmp 49) 22 2 (.int .i64 0) 8 rfl Tryd.underlying22 info2 rfl (by decide) (by omega) v5 l2 d [.int .i64 d] (fun k => k ≠ g1 ∧ k ≠ g2) (fun _ => False) rfl rfl ?aP (fun _ hk => hk.elim) ?aF ?aO ?aB ?aS ?aL ?_; (case aP => exact rfl); (case aB => exact (by repeat (first | (with_reducible first | exact HBb5.out | apply below_alloc | apply pw_below_drewN | apply below_drew1) | exact HBb5.out))); (case aF => exact (fun k_ hk => by have h_ := HS5.out.lt; exact ⟨fun e_ => by omega, fun e_ => by omega⟩)); (case aO => exact (by (with_reducible repeat (first | apply Kd.R_alloc | apply Kd.R_drewN | apply Kd.R_drew)); exact Kd.R_reok rfl (Kd.R_lower HN5.out (HO4.out.base HW.out HW.out.size hg1 hg2).size) (fun k_ e_ => by have h_ := HS4.out.lt; have h2_ := Kd.R_base HN5.out k_ e_; exact ⟨fun e_ => by omega, fun e_ => by omega⟩))); (case aS => exact (below_size (show Below w0.heap.size w0 _ from (by repeat (first | (with_reducible first | exact HBb5.out | apply below_alloc | apply pw_below_drewN | apply below_drew1) | exact HBb5.out))))); (case aL => have := CL.out; omega); intro v6 w6 ho hb hg hat; have hbc := HO4.out.base HW.out HW.out.size hg1 hg2; have hB6 := Aside0.mk (show Below w4.heap.size w4 w6 from ⟨hb.os.trans hbc.os.symm, hb.tape.trans hbc.tape.symm, hb.output.trans hbc.output.symm, Nat.le_trans (below_size (show Below w4.heap.size w4 _ from (by repeat (first | (with_reducible first | exact HB5.out | apply below_alloc | apply pw_below_drewN | apply below_drew1) | exact HB5.out)))) hg.size, fun k_ hk_ => (hg.block k_ (Nat.lt_of_lt_of_le hk_ (below_size (show Below w4.heap.size w4 _ from (by repeat (first | (with_reducible first | exact HB5.out | apply below_alloc | apply pw_below_drewN | apply below_drew1) | exact HB5.out))))) (fun e_ => by have h_ := Kd.R_base HN5.out k_ e_.symm; omega)).trans ((show Below w4.heap.size w4 _ from (by repeat (first | (with_reducible first | exact HB5.out | apply below_alloc | apply pw_below_drewN | apply below_drew1) | exact HB5.out))).block k_ hk_)⟩); have HS6 := Aside0.mk (HS4.out.below hB6.out); have HR6 := Aside0.mk (Kd.R_below HR4.out hB6.out); have HO6 := Aside0.mk (HO4.out.trans (Only2.of_below (g := g1) (h := g2) hB6.out)); have HN6 := Aside0.mk ho; have HB6 := Aside0.mk hb; clear ho hb hg hat hbc hB6)
                  | (go_at_call 12; (refine (IH.out k1 (by have := HK1.out; omega) own (rr ++ last) (l2 ++ [d]) v6 s2 s3 _ HB6.out HS6.out HN6.out HE.out).mono ?_); rintro e w7 ⟨rfl, hS7, hO7⟩; have HS7 := Aside0.mk hS7; have HR7 := Aside0.mk (hO7.row HR6.out); have HO7 := Aside0.mk (HO6.out.trans hO7); clear hS7 hO7))
                go_roundg k1
                case measure => have := HK1.out; omega
                case rel => exact ⟨_, s3, rfl, H', ⟨by have := HK1.out; omega⟩, HS7, HR7, HO7⟩

set_option maxHeartbeats 8000000 in
set_option maxRecDepth 100000 in
theorem impl_ListOfStandard.calls (k : Nat) (a0 : ByteArray) (r1 : List Int) (r2 : Int) (w : World) (h : impl_ListOfStandard.f k a0 = some (r1, r2)) :
    Calls Tryd.prog 5 #[.string a0] w fun e w' => ∃ v0_ : Value, e = .returned (.tuple #[v0_, .int .i64 r2]) ∧ Kd.R (Kd.int .i64) 2 w' w.heap.size (fun _ => True) v0_ r1 ∧ Below w.heap.size w w' := by
  obtain ⟨b, hT, H⟩ := Option.bind_eq_some_iff.mp h
  have HT := Aside0.mk (fun W => impl_isTwo.calls a0 b W hT)
  clear h hT
  cases b with
  | false =>
    rw [if_neg (by simp)] at H
    simp only [Option.some.injEq, Prod.mk.injEq] at H
    obtain ⟨rfl, rfl⟩ := H
    go_enter Tryd.func5, Tryd.ntmps5
    go_wp2_with (first | (go_at_call 11; (with_reducible refine (HT.out _).mono ?_); rintro e w1 ⟨rfl, hb1⟩; have HB1 := Aside0.mk hb1; clear hb1))
    go_ret2
    exact ⟨_, rfl, Kd.R_nil _ _ _ _ _, HB1.out⟩
  | true =>
    rw [if_pos rfl] at H
    obtain ⟨s, hE, H⟩ := Option.bind_eq_some_iff.mp H
    have HE := Aside0.mk hE
    have H' := Aside0.mk H
    clear hE H
    go_enter Tryd.func5, Tryd.ntmps5
    go_wp2_with (first
      | (go_at_call 11; (with_reducible refine (HT.out _).mono ?_); rintro e w1 ⟨rfl, hb1⟩; have HB1 := Aside0.mk hb1; clear hb1))
    have HA1 := Aside0.mk (show Below w.heap.size w ((w1.alloc (Obj.cells #[Value.slice none 0 0] 22)).alloc (Obj.cells #[Value.bool false] 4)) from below_alloc (below_alloc HB1.out _) _)
    have hq2 : ((w1.alloc (Obj.cells #[Value.slice none 0 0] 22)).alloc (Obj.cells #[Value.bool false] 4)).heap[w1.heap.size]? = some (.cells #[.slice none 0 0] 22 (0, 0)) := blk_alloc (blk_new w1 _) _
    have hq1 : ((w1.alloc (Obj.cells #[Value.slice none 0 0] 22)).alloc (Obj.cells #[Value.bool false] 4)).heap[w1.heap.size + 1]? = some (.cells #[.bool false] 4 (0, 0)) := by
      have h_ := blk_new (w1.alloc (Obj.cells #[Value.slice none 0 0] 22)) (Obj.cells #[Value.bool false] 4)
      have hs_ : (w1.alloc (Obj.cells #[Value.slice none 0 0] 22)).heap.size = w1.heap.size + 1 := by show (w1.heap.push _).size = _; exact Array.size_push _
      rw [hs_] at h_; exact h_
    have hsz : w.heap.size ≤ w1.heap.size := HB1.out.size
    have HQ := Aside0.mk (show StF w.heap.size (w1.heap.size + 1) w1.heap.size ((w1.alloc (Obj.cells #[Value.slice none 0 0] 22)).alloc (Obj.cells #[Value.bool false] 4)) (false, []) from ⟨none, 0, hq1, hq2, Kd.R_nil _ _ _ _ _⟩)
    clear hq1 hq2
    obtain ⟨f, l⟩ := s
    refine (standardLists_calls w (w1.heap.size + 1) w1.heap.size (by omega) hsz a0 k ⟨#[98]⟩ ⟨#[97]⟩ [] (.slice none 0 0) (false, []) (f, l) _ HA1.out HQ.out (Kd.R_nil _ _ _ _ _) HE.out).mono ?_
    rintro e w2 ⟨rfl, hS, hO⟩
    have HB2 := Aside0.mk (hO.base HA1.out HA1.out.size (by omega) hsz)
    obtain ⟨A, c, q1, q2, q3⟩ := hS
    have hc1 : w2.cell? ⟨w1.heap.size + 1, 0, none⟩ = some (.bool f) := (blk_cell q1 0).trans rfl
    have hc2 : w2.cell? ⟨w1.heap.size, 0, none⟩ = some (.slice A l.length c) := (blk_cell q2 0).trans rfl
    have Q3 := Aside0.mk q3
    have H := H'.out
    clear H' HQ HA1 HE hO q1 q2 q3 hsz
    dsimp only
    cases f with
    | false =>
      rw [if_neg (by simp)] at H
      simp only [Option.some.injEq, Prod.mk.injEq] at H
      obtain ⟨rfl, rfl⟩ := H
      go_wp2
      go_ret2
      exact ⟨_, rfl, Kd.R_nil _ _ _ _ _, HB2.out⟩
    | true =>
      rw [if_pos rfl] at H
      simp only [Option.some.injEq, Prod.mk.injEq] at H
      obtain ⟨rfl, rfl⟩ := H
      go_wp2
      go_ret2
      exact ⟨_, rfl, Kd.R_mono Q3.out (fun _ _ => trivial), HB2.out⟩

end Go.Proofs.YtippkbjdifmdnaaDoor.PF
