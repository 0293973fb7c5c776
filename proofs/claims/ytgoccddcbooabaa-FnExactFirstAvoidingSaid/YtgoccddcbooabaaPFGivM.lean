/- Given for the print: does a word fit a pattern, by hand: a function that calls itself, with an array of values and a function value. -/
import Derived.Test.YtgoccddcbooabaaPFGivA
import Derived.Deep.RegionWith
import Derived.Deep.QuietTactic
import Derived.StillTailTactics
import Derived.Test.YtgoccddcbooabaaShelf
namespace Go.Proofs.Ytgoccddcbooabaa.PF
open Go.RowKit Go.Proofs.YtgoccddcbooabaaW.PrintWords Go.Proofs.YtgoccddcbooabaaW.PrintLast Go.Proofs.YtgoccddcbooabaaW.PrintMore
set_option linter.unusedVariables false
set_option linter.unusedSimpArgs false

def orP (f : Nat → Option Bool) : Nat → Nat → Option Bool
  | 0, _ => some false
  | d + 1, e => (f e).bind fun b => if b = true then some true else orP f d (e + 1)
theorem orP_mono {f g : Nat → Option Bool} (h : ∀ e, LeO (f e) (g e)) : ∀ d e, LeO (orP f d e) (orP g d e)
  | 0, _ => LeO.refl _
  | d + 1, e => LeO.bind (h e) fun b => LeO.ite (LeO.refl _) (orP_mono h d (e + 1))

theorem size_allocM (w : World) (o : Obj) : (w.alloc o).heap.size = w.heap.size + 1 := by simp only [World.alloc, Array.size_push]

/-- Three values as Go holds them. -/
def vstr (vs : List ByteArray) : Value := .agg (vs.map Value.string).toArray

/-- Does the word from place a on fit the rest of a pattern with these values, so that what comes behind it is as told? -/
def matchP (w : ByteArray) (D : List ByteArray → Nat → Option Bool) : Nat → ByteArray → List ByteArray → Nat → Option Bool
  | 0, _, _, _ => none
  | k + 1, p, vs, a =>
    if a ≤ w.size then
      if p.size = 0 then D vs a
      else if 65 ≤ bt p 0 ∧ bt p 0 < 68 then
        (if (rdOf ByteArray.empty vs (bt p 0 - 65)).size = 0 then orP (fun e => matchP w D k (p.extract 1 p.size) (vs.set (bt p 0 - 65).toNat (w.extract a e)) e) (w.size - a) (a + 1)
         else if Lib.hasPrefix (w.extract a w.size).data.toList (rdOf ByteArray.empty vs (bt p 0 - 65)).data.toList = true then matchP w D k (p.extract 1 p.size) vs (a + (rdOf ByteArray.empty vs (bt p 0 - 65)).size) else some false)
      else none
    else none

theorem matchP_mono (w : ByteArray) (D : List ByteArray → Nat → Option Bool) : ∀ k p vs a, LeO (matchP w D k p vs a) (matchP w D (k + 1) p vs a) := by
  intro k
  induction k with
  | zero => exact fun p vs a => LeO.none _
  | succ k ih =>
    intro p vs a
    exact LeO.ite (LeO.ite (LeO.refl _) (LeO.ite (LeO.ite (orP_mono (fun e => ih _ _ e) _ _) (LeO.ite (ih _ _ _) (LeO.refl _))) (LeO.refl _))) (LeO.refl _)

theorem matchP_le {w : ByteArray} {D : List ByteArray → Nat → Option Bool} {k : Nat} {p : ByteArray} {vs : List ByteArray} {a : Nat} {r : Bool} (h : matchP w D k p vs a = some r) : a ≤ w.size := by
  cases k with
  | zero => cases h
  | succ k =>
    simp only [matchP] at h
    split at h
    · assumption
    · cases h

/-- What is asked of the function value. -/
def PredM (D : List ByteArray → Nat → Option Bool) (n : Nat) (lb : Array Value) (w : World) : Prop :=
  ∀ (vs : List ByteArray) (e : Nat) (W : World), Below w.heap.size w W → vs.length = 3 → ∀ r, D vs e = some r → Calls Try.prog n (#[vstr vs, .int .i64 e] ++ lb) W fun x W' => x = .returned (.bool r) ∧ Below W.heap.size W W'

set_option maxHeartbeats 4000000 in
set_option maxRecDepth 100000 in
theorem match_calls (w : ByteArray) (hw : w.size ≤ 1099511627776) (D : List ByteArray → Nat → Option Bool) (n : Nat) (lb : Array Value) (w0 : World) (eg : ∀ args w, (callFunc n args).run Try.prog w = .ok (.enter n args) w) (hF : PredM D n lb w0) :
    ∀ (k : Nat) (p : ByteArray) (x y z : ByteArray) (a : Nat) (r : Bool) (W : World), p.size ≤ 1099511627776 → Below w0.heap.size w0 W → matchP w D k p [x, y, z] a = some r →
    Calls Try.prog 41 #[.string w, .string p, vstr [x, y, z], .int .i64 a, .func (.func n) #[] lb] W fun e W' => e = .returned (.bool r) ∧ Below W.heap.size W W' := by
  intro k
  induction k with
  | zero => intro p x y z a r W hp hB h; cases h
  | succ k ih =>
    intro p x y z a r W hp hB h
    have HI := Aside0.mk ih
    have HF := Aside0.mk hF
    have HB0 := Aside0.mk hB
    clear ih hF hB
    simp only [matchP] at h
    by_cases ha : a ≤ w.size
    case neg => rw [if_neg ha] at h; cases h
    rw [if_pos ha] at h
    have hblk := Aside0.mk (blk_new W (Obj.cells #[Value.string x, Value.string y, Value.string z] 47))
    by_cases hp0 : p.size = 0
    · rw [if_pos hp0] at h
      have hpt : p.toList = ([] : List UInt8) := by rw [ByteArray.toList_eq]; exact List.eq_nil_of_length_eq_zero (by rw [Array.length_toList]; exact hp0)
      have hcall := Aside0.mk (fun (W' : World) (hb : Below w0.heap.size w0 W') => HF.out [x, y, z] a W' hb rfl r h)
      clear h
      unfold vstr at hcall ⊢
      simp only [List.map_cons, List.map_nil] at hcall ⊢
      go_enter Try.func41, Try.ntmps41
      go_wp2_with (go_at_fn n; (refine (hcall.out _ (below_alloc HB0.out _)).mono ?_); rintro e W2 ⟨rfl, hb2⟩)
      go_ret
      exact ⟨rfl, below_step (below_alloc (Below.refl _ _) _) hb2⟩
    · rw [if_neg hp0] at h
      have hpt : ¬ p.toList = ([] : List UInt8) := fun e => hp0 (by rw [ByteArray.toList_eq] at e; have := congrArg List.length e; rw [Array.length_toList] at this; exact this)
      by_cases hc : 65 ≤ bt p 0 ∧ bt p 0 < 68
      case neg => rw [if_neg hc] at h; cases h
      rw [if_pos hc] at h
      have hx4 := bt_at p 0
      have hpe : p.toList.isEmpty = false := by cases e : p.toList with
        | nil => exact absurd e hpt
        | cons _ _ => rfl
      have hpz : 0 < p.size := by omega
      have hpz' := eq_true hpz
      generalize bt p 0 = c at hc h hx4
      have hc3 : c = 65 ∨ c = 66 ∨ c = 67 := by omega
      unfold vstr
      simp only [List.map_cons, List.map_nil]
      rcases hc3 with rfl | rfl | rfl
      · have hx5 : (p[0]'hpz).toNat = 65 := by have := hx4 hpz; simp only [Int.toNat_zero] at this; omega
        clear hx4 hc
        have hget : rdOf ByteArray.empty [x, y, z] ((65 : Int) - 65) = x := rfl
        have hset : ∀ q, [x, y, z].set ((65 : Int) - 65).toNat q = [q, y, z] := fun _ => rfl
        rw [hget] at h
        simp only [hset] at h
        by_cases ho : x.size = 0
        · rw [if_pos ho] at h
          have hot : x.toList.isEmpty = true := by rw [ByteArray.toList_eq, List.eq_nil_of_length_eq_zero (show x.data.toList.length = 0 by rw [Array.length_toList]; exact ho)]; rfl
          have hl := Aside0.mk h
          clear h hget hset
          have ha1 := eq_true (show (0 : Int) ≤ (a : Int) by omega)
          have ha2 := eq_true (show (a : Int) ≤ (w.size : Int) by omega)
          have hp1 := eq_true (show (1 : Int) ≤ (p.size : Int) by omega)
          have hp2 := eq_true (show 1 ≤ p.size by omega)
          go_enter Try.func41, Try.ntmps41
          go_wp2
          have HB1 := Aside0.mk (below_alloc HB0.out (Obj.cells #[Value.string x, Value.string y, Value.string z] 47))
          have HS1 := Aside0.mk (size_allocM W (Obj.cells #[Value.string x, Value.string y, Value.string z] 47))
          have HBW := Aside0.mk (below_alloc (Below.refl W.heap.size W) (Obj.cells #[Value.string x, Value.string y, Value.string z] 47))
          generalize W.alloc (Obj.cells #[Value.string x, Value.string y, Value.string z] 47) = W1 at *
          clear HB0
          go_loopg [10, 13, 14] (w.size - a) (fun gg v10 v13 _ wr => ∃ e : Nat, v13 = .int .i64 e ∧ a + 1 ≤ e ∧ e ≤ w.size + 1 ∧ w.size + 1 - e ≤ gg ∧ v10 = .bool false ∧
            Aside0 (orP (fun e => matchP w D k (p.extract 1 p.size) [(w.extract a e), y, z] e) (w.size + 1 - e) e = some r) ∧ Aside0 (Below W1.heap.size W1 wr))
          case atStart => exact ⟨a + 1, by go_num, by omega, by omega, by omega, rfl, ⟨by rw [show w.size + 1 - (a + 1) = w.size - a by omega]; exact hl.out⟩, ⟨Below.refl _ _⟩⟩
          case round =>
            clear hl
            obtain ⟨e, rfl, he1, he2, hgg, rfl, HA, HB⟩ := hrel
            have hblkr := blk_below hblk.out HB.out
            by_cases hlt : e ≤ w.size
            · have hltz := eq_true (show (e : Int) ≤ (w.size : Int) by omega)
              have hltb : decide ((e : Int) ≤ (w.size : Int)) = true := decide_eq_true (by omega)
              have hael := eq_true (show (a : Int) ≤ (e : Int) by omega)
              have hae2 := eq_true (show a ≤ e by omega)
              have h := HA.out
              rw [show w.size + 1 - e = (w.size + 1 - (e + 1)) + 1 by omega] at h
              simp only [orP] at h
              obtain ⟨b, hb, h⟩ := Option.bind_eq_some_iff.mp h
              have hcall := Aside0.mk (fun (W' : World) (hb' : Below w0.heap.size w0 W') => HI.out (p.extract 1 p.size) (w.extract a e) y z e b W' (by rw [ByteArray.size_extract]; omega) hb' hb)
              have H := Aside0.mk h
              clear h hb HA
              unfold vstr at hcall
              simp only [List.map_cons, List.map_nil] at hcall
              have hc0 : wr.cell? ⟨W.heap.size, 0, none⟩ = some (.string x) := (blk_cell hblkr 0).trans rfl
              have hc1 : wr.cell? ⟨W.heap.size, 1, none⟩ = some (.string y) := (blk_cell hblkr 1).trans rfl
              have hc2 : wr.cell? ⟨W.heap.size, 2, none⟩ = some (.string z) := (blk_cell hblkr 2).trans rfl
              clear hblkr
              go_wp2
              have hn0 := blk_new wr (Obj.cells #[Value.string (w.extract a e), Value.string y, Value.string z] 47)
              have hd0 : (wr.alloc (Obj.cells #[Value.string (w.extract a e), Value.string y, Value.string z] 47)).cell? ⟨wr.heap.size, 0, none⟩ = some (.string (w.extract a e)) := (blk_cell hn0 0).trans rfl
              have hd1 : (wr.alloc (Obj.cells #[Value.string (w.extract a e), Value.string y, Value.string z] 47)).cell? ⟨wr.heap.size, 1, none⟩ = some (.string y) := (blk_cell hn0 1).trans rfl
              have hd2 : (wr.alloc (Obj.cells #[Value.string (w.extract a e), Value.string y, Value.string z] 47)).cell? ⟨wr.heap.size, 2, none⟩ = some (.string z) := (blk_cell hn0 2).trans rfl
              have HB2 := Aside0.mk (below_alloc HB.out (Obj.cells #[Value.string (w.extract a e), Value.string y, Value.string z] 47))
              clear hn0 hc0 hc1 hc2 hblk
              generalize wr.alloc (Obj.cells #[Value.string (w.extract a e), Value.string y, Value.string z] 47) = w2 at *
              go_region_with (first | (go_at_call 41; (refine (hcall.out _ ?hb).mono ?_); (case hb => exact below_step HB1.out (below_drew1 HB2.out)); rintro e' w3 ⟨rfl, hb3⟩))
              have HB3 := Aside0.mk (below_step (below_drew1 HB2.out) hb3)
              clear hb3 HB2 hcall
              cases b with
              | true =>
                have h := H.out
                simp only [if_true, Option.some.injEq] at h
                subst h
                clear H
                go_wp2
                go_ret
                exact ⟨rfl, below_step HBW.out HB3.out⟩
              | false =>
                have h := H.out
                simp only [Bool.false_eq_true, if_false] at h
                have H2 := Aside0.mk h
                clear h H
                go_wp2
                go_roundg (w.size + 1 - (e + 1))
                case measure => omega
                case rel => exact ⟨e + 1, by go_num, by omega, by omega, by omega, rfl, H2, HB3⟩
            · have hltz : ¬ (e : Int) ≤ (w.size : Int) := by omega
              have hltb : decide ((e : Int) ≤ (w.size : Int)) = false := decide_eq_false (by omega)
              have h := HA.out
              rw [show w.size + 1 - e = 0 by omega] at h
              simp only [orP, Option.some.injEq] at h
              subst h
              clear HA
              go_wp2
              go_ret
              exact ⟨rfl, below_step HBW.out HB.out⟩
        · rw [if_neg ho] at h
          have hot : x.toList.isEmpty = false := by cases e : x.toList with
            | nil => exact absurd (by rw [ByteArray.toList_eq] at e; have := congrArg List.length e; rw [Array.length_toList] at this; exact this) ho
            | cons _ _ => rfl
          have hcall1 := Aside0.mk (fun W => Try.strings_HasPrefix (w.extract a w.size) x W)
          have ha1 := eq_true (show (0 : Int) ≤ (a : Int) by omega)
          have ha2 := eq_true (show (a : Int) ≤ (w.size : Int) by omega)
          have hp1 := eq_true (show (1 : Int) ≤ (p.size : Int) by omega)
          have hp2 := eq_true (show 1 ≤ p.size by omega)
          generalize Lib.hasPrefix (w.extract a w.size).data.toList x.data.toList = b at h hcall1
          cases b with
          | true =>
            simp only [if_true] at h
            have hle := matchP_le h
            have hcall2 := Aside0.mk (fun (W' : World) (hb' : Below w0.heap.size w0 W') => HI.out (p.extract 1 p.size) x y z (a + x.size) r W' (by rw [ByteArray.size_extract]; omega) hb' h)
            obtain ⟨s, hs⟩ : ∃ s, s = a + x.size := ⟨_, rfl⟩
            rw [← hs] at hcall2
            have hwr : wrap64 ((a : Int) + (x.size : Int)) = (s : Int) := by unfold wrap64; omega
            have hwr2 : IntKind.i64.wrap ((a : Int) + (x.size : Int)) = (s : Int) := (i64_w _).trans hwr
            clear hs hle h hget hset
            unfold vstr at hcall2
            simp only [List.map_cons, List.map_nil] at hcall2
            go_enter Try.func41, Try.ntmps41
            go_wp2
            have hn0 := blk_new W (Obj.cells #[Value.string x, Value.string y, Value.string z] 47)
            have hd0 : (W.alloc (Obj.cells #[Value.string x, Value.string y, Value.string z] 47)).cell? ⟨W.heap.size, 0, none⟩ = some (.string x) := (blk_cell hn0 0).trans rfl
            have hd1 : (W.alloc (Obj.cells #[Value.string x, Value.string y, Value.string z] 47)).cell? ⟨W.heap.size, 1, none⟩ = some (.string y) := (blk_cell hn0 1).trans rfl
            have hd2 : (W.alloc (Obj.cells #[Value.string x, Value.string y, Value.string z] 47)).cell? ⟨W.heap.size, 2, none⟩ = some (.string z) := (blk_cell hn0 2).trans rfl
            have HB1 := Aside0.mk (below_alloc HB0.out (Obj.cells #[Value.string x, Value.string y, Value.string z] 47))
            have HBW := Aside0.mk (below_alloc (Below.refl W.heap.size W) (Obj.cells #[Value.string x, Value.string y, Value.string z] 47))
            clear hn0 hblk
            generalize W.alloc (Obj.cells #[Value.string x, Value.string y, Value.string z] 47) = W1 at *
            refine wp_region_still_tail 15 (by kernel_rfl) (by kernel_rfl) ?_
            simp only [List.take_succ_cons, List.take_zero, List.drop_succ_cons, List.drop_zero]
            iterate 4 still_step
            still_call (hcall1.out _)
            repeat still_step
            refine wpStill_nil ?_
            change wpList _ _ _ _ _ W1.drew
            have HB2 := Aside0.mk (below_drew1 (Below.refl W1.heap.size W1))
            generalize W1.drew = w2 at *
            go_wp2_with (go_at_call 41; (refine (hcall2.out _ (below_step HB1.out HB2.out)).mono ?_); rintro e' w3 ⟨rfl, hb3⟩; have HB3 := Aside0.mk (below_step HB2.out hb3); clear hb3)
            go_ret
            exact ⟨rfl, below_step HBW.out HB3.out⟩
          | false =>
            simp only [Bool.false_eq_true, if_false, Option.some.injEq] at h
            subst h
            clear hget hset
            go_enter Try.func41, Try.ntmps41
            go_wp2
            have HBW := Aside0.mk (below_alloc (Below.refl W.heap.size W) (Obj.cells #[Value.string x, Value.string y, Value.string z] 47))
            clear hblk
            generalize W.alloc (Obj.cells #[Value.string x, Value.string y, Value.string z] 47) = W1 at *
            go_quiet (first | (go_at_call 51; refine Calls.quiet_of_same (hcall1.out _)))
            go_wp2
            go_ret
            exact ⟨rfl, pw_below_drewN HBW.out _⟩
      · have hx5 : (p[0]'hpz).toNat = 66 := by have := hx4 hpz; simp only [Int.toNat_zero] at this; omega
        clear hx4 hc
        have hget : rdOf ByteArray.empty [x, y, z] ((66 : Int) - 65) = y := rfl
        have hset : ∀ q, [x, y, z].set ((66 : Int) - 65).toNat q = [x, q, z] := fun _ => rfl
        rw [hget] at h
        simp only [hset] at h
        by_cases ho : y.size = 0
        · rw [if_pos ho] at h
          have hot : y.toList.isEmpty = true := by rw [ByteArray.toList_eq, List.eq_nil_of_length_eq_zero (show y.data.toList.length = 0 by rw [Array.length_toList]; exact ho)]; rfl
          have hl := Aside0.mk h
          clear h hget hset
          have ha1 := eq_true (show (0 : Int) ≤ (a : Int) by omega)
          have ha2 := eq_true (show (a : Int) ≤ (w.size : Int) by omega)
          have hp1 := eq_true (show (1 : Int) ≤ (p.size : Int) by omega)
          have hp2 := eq_true (show 1 ≤ p.size by omega)
          go_enter Try.func41, Try.ntmps41
          go_wp2
          have HB1 := Aside0.mk (below_alloc HB0.out (Obj.cells #[Value.string x, Value.string y, Value.string z] 47))
          have HS1 := Aside0.mk (size_allocM W (Obj.cells #[Value.string x, Value.string y, Value.string z] 47))
          have HBW := Aside0.mk (below_alloc (Below.refl W.heap.size W) (Obj.cells #[Value.string x, Value.string y, Value.string z] 47))
          generalize W.alloc (Obj.cells #[Value.string x, Value.string y, Value.string z] 47) = W1 at *
          clear HB0
          go_loopg [10, 13, 14] (w.size - a) (fun gg v10 v13 _ wr => ∃ e : Nat, v13 = .int .i64 e ∧ a + 1 ≤ e ∧ e ≤ w.size + 1 ∧ w.size + 1 - e ≤ gg ∧ v10 = .bool false ∧
            Aside0 (orP (fun e => matchP w D k (p.extract 1 p.size) [x, (w.extract a e), z] e) (w.size + 1 - e) e = some r) ∧ Aside0 (Below W1.heap.size W1 wr))
          case atStart => exact ⟨a + 1, by go_num, by omega, by omega, by omega, rfl, ⟨by rw [show w.size + 1 - (a + 1) = w.size - a by omega]; exact hl.out⟩, ⟨Below.refl _ _⟩⟩
          case round =>
            clear hl
            obtain ⟨e, rfl, he1, he2, hgg, rfl, HA, HB⟩ := hrel
            have hblkr := blk_below hblk.out HB.out
            by_cases hlt : e ≤ w.size
            · have hltz := eq_true (show (e : Int) ≤ (w.size : Int) by omega)
              have hltb : decide ((e : Int) ≤ (w.size : Int)) = true := decide_eq_true (by omega)
              have hael := eq_true (show (a : Int) ≤ (e : Int) by omega)
              have hae2 := eq_true (show a ≤ e by omega)
              have h := HA.out
              rw [show w.size + 1 - e = (w.size + 1 - (e + 1)) + 1 by omega] at h
              simp only [orP] at h
              obtain ⟨b, hb, h⟩ := Option.bind_eq_some_iff.mp h
              have hcall := Aside0.mk (fun (W' : World) (hb' : Below w0.heap.size w0 W') => HI.out (p.extract 1 p.size) x (w.extract a e) z e b W' (by rw [ByteArray.size_extract]; omega) hb' hb)
              have H := Aside0.mk h
              clear h hb HA
              unfold vstr at hcall
              simp only [List.map_cons, List.map_nil] at hcall
              have hc0 : wr.cell? ⟨W.heap.size, 0, none⟩ = some (.string x) := (blk_cell hblkr 0).trans rfl
              have hc1 : wr.cell? ⟨W.heap.size, 1, none⟩ = some (.string y) := (blk_cell hblkr 1).trans rfl
              have hc2 : wr.cell? ⟨W.heap.size, 2, none⟩ = some (.string z) := (blk_cell hblkr 2).trans rfl
              clear hblkr
              go_wp2
              have hn0 := blk_new wr (Obj.cells #[Value.string x, Value.string (w.extract a e), Value.string z] 47)
              have hd0 : (wr.alloc (Obj.cells #[Value.string x, Value.string (w.extract a e), Value.string z] 47)).cell? ⟨wr.heap.size, 0, none⟩ = some (.string x) := (blk_cell hn0 0).trans rfl
              have hd1 : (wr.alloc (Obj.cells #[Value.string x, Value.string (w.extract a e), Value.string z] 47)).cell? ⟨wr.heap.size, 1, none⟩ = some (.string (w.extract a e)) := (blk_cell hn0 1).trans rfl
              have hd2 : (wr.alloc (Obj.cells #[Value.string x, Value.string (w.extract a e), Value.string z] 47)).cell? ⟨wr.heap.size, 2, none⟩ = some (.string z) := (blk_cell hn0 2).trans rfl
              have HB2 := Aside0.mk (below_alloc HB.out (Obj.cells #[Value.string x, Value.string (w.extract a e), Value.string z] 47))
              clear hn0 hc0 hc1 hc2 hblk
              generalize wr.alloc (Obj.cells #[Value.string x, Value.string (w.extract a e), Value.string z] 47) = w2 at *
              go_region_with (first | (go_at_call 41; (refine (hcall.out _ ?hb).mono ?_); (case hb => exact below_step HB1.out (below_drew1 HB2.out)); rintro e' w3 ⟨rfl, hb3⟩))
              have HB3 := Aside0.mk (below_step (below_drew1 HB2.out) hb3)
              clear hb3 HB2 hcall
              cases b with
              | true =>
                have h := H.out
                simp only [if_true, Option.some.injEq] at h
                subst h
                clear H
                go_wp2
                go_ret
                exact ⟨rfl, below_step HBW.out HB3.out⟩
              | false =>
                have h := H.out
                simp only [Bool.false_eq_true, if_false] at h
                have H2 := Aside0.mk h
                clear h H
                go_wp2
                go_roundg (w.size + 1 - (e + 1))
                case measure => omega
                case rel => exact ⟨e + 1, by go_num, by omega, by omega, by omega, rfl, H2, HB3⟩
            · have hltz : ¬ (e : Int) ≤ (w.size : Int) := by omega
              have hltb : decide ((e : Int) ≤ (w.size : Int)) = false := decide_eq_false (by omega)
              have h := HA.out
              rw [show w.size + 1 - e = 0 by omega] at h
              simp only [orP, Option.some.injEq] at h
              subst h
              clear HA
              go_wp2
              go_ret
              exact ⟨rfl, below_step HBW.out HB.out⟩
        · rw [if_neg ho] at h
          have hot : y.toList.isEmpty = false := by cases e : y.toList with
            | nil => exact absurd (by rw [ByteArray.toList_eq] at e; have := congrArg List.length e; rw [Array.length_toList] at this; exact this) ho
            | cons _ _ => rfl
          have hcall1 := Aside0.mk (fun W => Try.strings_HasPrefix (w.extract a w.size) y W)
          have ha1 := eq_true (show (0 : Int) ≤ (a : Int) by omega)
          have ha2 := eq_true (show (a : Int) ≤ (w.size : Int) by omega)
          have hp1 := eq_true (show (1 : Int) ≤ (p.size : Int) by omega)
          have hp2 := eq_true (show 1 ≤ p.size by omega)
          generalize Lib.hasPrefix (w.extract a w.size).data.toList y.data.toList = b at h hcall1
          cases b with
          | true =>
            simp only [if_true] at h
            have hle := matchP_le h
            have hcall2 := Aside0.mk (fun (W' : World) (hb' : Below w0.heap.size w0 W') => HI.out (p.extract 1 p.size) x y z (a + y.size) r W' (by rw [ByteArray.size_extract]; omega) hb' h)
            obtain ⟨s, hs⟩ : ∃ s, s = a + y.size := ⟨_, rfl⟩
            rw [← hs] at hcall2
            have hwr : wrap64 ((a : Int) + (y.size : Int)) = (s : Int) := by unfold wrap64; omega
            have hwr2 : IntKind.i64.wrap ((a : Int) + (y.size : Int)) = (s : Int) := (i64_w _).trans hwr
            clear hs hle h hget hset
            unfold vstr at hcall2
            simp only [List.map_cons, List.map_nil] at hcall2
            go_enter Try.func41, Try.ntmps41
            go_wp2
            have hn0 := blk_new W (Obj.cells #[Value.string x, Value.string y, Value.string z] 47)
            have hd0 : (W.alloc (Obj.cells #[Value.string x, Value.string y, Value.string z] 47)).cell? ⟨W.heap.size, 0, none⟩ = some (.string x) := (blk_cell hn0 0).trans rfl
            have hd1 : (W.alloc (Obj.cells #[Value.string x, Value.string y, Value.string z] 47)).cell? ⟨W.heap.size, 1, none⟩ = some (.string y) := (blk_cell hn0 1).trans rfl
            have hd2 : (W.alloc (Obj.cells #[Value.string x, Value.string y, Value.string z] 47)).cell? ⟨W.heap.size, 2, none⟩ = some (.string z) := (blk_cell hn0 2).trans rfl
            have HB1 := Aside0.mk (below_alloc HB0.out (Obj.cells #[Value.string x, Value.string y, Value.string z] 47))
            have HBW := Aside0.mk (below_alloc (Below.refl W.heap.size W) (Obj.cells #[Value.string x, Value.string y, Value.string z] 47))
            clear hn0 hblk
            generalize W.alloc (Obj.cells #[Value.string x, Value.string y, Value.string z] 47) = W1 at *
            refine wp_region_still_tail 15 (by kernel_rfl) (by kernel_rfl) ?_
            simp only [List.take_succ_cons, List.take_zero, List.drop_succ_cons, List.drop_zero]
            iterate 4 still_step
            still_call (hcall1.out _)
            repeat still_step
            refine wpStill_nil ?_
            change wpList _ _ _ _ _ W1.drew
            have HB2 := Aside0.mk (below_drew1 (Below.refl W1.heap.size W1))
            generalize W1.drew = w2 at *
            go_wp2_with (go_at_call 41; (refine (hcall2.out _ (below_step HB1.out HB2.out)).mono ?_); rintro e' w3 ⟨rfl, hb3⟩; have HB3 := Aside0.mk (below_step HB2.out hb3); clear hb3)
            go_ret
            exact ⟨rfl, below_step HBW.out HB3.out⟩
          | false =>
            simp only [Bool.false_eq_true, if_false, Option.some.injEq] at h
            subst h
            clear hget hset
            go_enter Try.func41, Try.ntmps41
            go_wp2
            have HBW := Aside0.mk (below_alloc (Below.refl W.heap.size W) (Obj.cells #[Value.string x, Value.string y, Value.string z] 47))
            clear hblk
            generalize W.alloc (Obj.cells #[Value.string x, Value.string y, Value.string z] 47) = W1 at *
            go_quiet (first | (go_at_call 51; refine Calls.quiet_of_same (hcall1.out _)))
            go_wp2
            go_ret
            exact ⟨rfl, pw_below_drewN HBW.out _⟩
      · have hx5 : (p[0]'hpz).toNat = 67 := by have := hx4 hpz; simp only [Int.toNat_zero] at this; omega
        clear hx4 hc
        have hget : rdOf ByteArray.empty [x, y, z] ((67 : Int) - 65) = z := rfl
        have hset : ∀ q, [x, y, z].set ((67 : Int) - 65).toNat q = [x, y, q] := fun _ => rfl
        rw [hget] at h
        simp only [hset] at h
        by_cases ho : z.size = 0
        · rw [if_pos ho] at h
          have hot : z.toList.isEmpty = true := by rw [ByteArray.toList_eq, List.eq_nil_of_length_eq_zero (show z.data.toList.length = 0 by rw [Array.length_toList]; exact ho)]; rfl
          have hl := Aside0.mk h
          clear h hget hset
          have ha1 := eq_true (show (0 : Int) ≤ (a : Int) by omega)
          have ha2 := eq_true (show (a : Int) ≤ (w.size : Int) by omega)
          have hp1 := eq_true (show (1 : Int) ≤ (p.size : Int) by omega)
          have hp2 := eq_true (show 1 ≤ p.size by omega)
          go_enter Try.func41, Try.ntmps41
          go_wp2
          have HB1 := Aside0.mk (below_alloc HB0.out (Obj.cells #[Value.string x, Value.string y, Value.string z] 47))
          have HS1 := Aside0.mk (size_allocM W (Obj.cells #[Value.string x, Value.string y, Value.string z] 47))
          have HBW := Aside0.mk (below_alloc (Below.refl W.heap.size W) (Obj.cells #[Value.string x, Value.string y, Value.string z] 47))
          generalize W.alloc (Obj.cells #[Value.string x, Value.string y, Value.string z] 47) = W1 at *
          clear HB0
          go_loopg [10, 13, 14] (w.size - a) (fun gg v10 v13 _ wr => ∃ e : Nat, v13 = .int .i64 e ∧ a + 1 ≤ e ∧ e ≤ w.size + 1 ∧ w.size + 1 - e ≤ gg ∧ v10 = .bool false ∧
            Aside0 (orP (fun e => matchP w D k (p.extract 1 p.size) [x, y, (w.extract a e)] e) (w.size + 1 - e) e = some r) ∧ Aside0 (Below W1.heap.size W1 wr))
          case atStart => exact ⟨a + 1, by go_num, by omega, by omega, by omega, rfl, ⟨by rw [show w.size + 1 - (a + 1) = w.size - a by omega]; exact hl.out⟩, ⟨Below.refl _ _⟩⟩
          case round =>
            clear hl
            obtain ⟨e, rfl, he1, he2, hgg, rfl, HA, HB⟩ := hrel
            have hblkr := blk_below hblk.out HB.out
            by_cases hlt : e ≤ w.size
            · have hltz := eq_true (show (e : Int) ≤ (w.size : Int) by omega)
              have hltb : decide ((e : Int) ≤ (w.size : Int)) = true := decide_eq_true (by omega)
              have hael := eq_true (show (a : Int) ≤ (e : Int) by omega)
              have hae2 := eq_true (show a ≤ e by omega)
              have h := HA.out
              rw [show w.size + 1 - e = (w.size + 1 - (e + 1)) + 1 by omega] at h
              simp only [orP] at h
              obtain ⟨b, hb, h⟩ := Option.bind_eq_some_iff.mp h
              have hcall := Aside0.mk (fun (W' : World) (hb' : Below w0.heap.size w0 W') => HI.out (p.extract 1 p.size) x y (w.extract a e) e b W' (by rw [ByteArray.size_extract]; omega) hb' hb)
              have H := Aside0.mk h
              clear h hb HA
              unfold vstr at hcall
              simp only [List.map_cons, List.map_nil] at hcall
              have hc0 : wr.cell? ⟨W.heap.size, 0, none⟩ = some (.string x) := (blk_cell hblkr 0).trans rfl
              have hc1 : wr.cell? ⟨W.heap.size, 1, none⟩ = some (.string y) := (blk_cell hblkr 1).trans rfl
              have hc2 : wr.cell? ⟨W.heap.size, 2, none⟩ = some (.string z) := (blk_cell hblkr 2).trans rfl
              clear hblkr
              go_wp2
              have hn0 := blk_new wr (Obj.cells #[Value.string x, Value.string y, Value.string (w.extract a e)] 47)
              have hd0 : (wr.alloc (Obj.cells #[Value.string x, Value.string y, Value.string (w.extract a e)] 47)).cell? ⟨wr.heap.size, 0, none⟩ = some (.string x) := (blk_cell hn0 0).trans rfl
              have hd1 : (wr.alloc (Obj.cells #[Value.string x, Value.string y, Value.string (w.extract a e)] 47)).cell? ⟨wr.heap.size, 1, none⟩ = some (.string y) := (blk_cell hn0 1).trans rfl
              have hd2 : (wr.alloc (Obj.cells #[Value.string x, Value.string y, Value.string (w.extract a e)] 47)).cell? ⟨wr.heap.size, 2, none⟩ = some (.string (w.extract a e)) := (blk_cell hn0 2).trans rfl
              have HB2 := Aside0.mk (below_alloc HB.out (Obj.cells #[Value.string x, Value.string y, Value.string (w.extract a e)] 47))
              clear hn0 hc0 hc1 hc2 hblk
              generalize wr.alloc (Obj.cells #[Value.string x, Value.string y, Value.string (w.extract a e)] 47) = w2 at *
              go_region_with (first | (go_at_call 41; (refine (hcall.out _ ?hb).mono ?_); (case hb => exact below_step HB1.out (below_drew1 HB2.out)); rintro e' w3 ⟨rfl, hb3⟩))
              have HB3 := Aside0.mk (below_step (below_drew1 HB2.out) hb3)
              clear hb3 HB2 hcall
              cases b with
              | true =>
                have h := H.out
                simp only [if_true, Option.some.injEq] at h
                subst h
                clear H
                go_wp2
                go_ret
                exact ⟨rfl, below_step HBW.out HB3.out⟩
              | false =>
                have h := H.out
                simp only [Bool.false_eq_true, if_false] at h
                have H2 := Aside0.mk h
                clear h H
                go_wp2
                go_roundg (w.size + 1 - (e + 1))
                case measure => omega
                case rel => exact ⟨e + 1, by go_num, by omega, by omega, by omega, rfl, H2, HB3⟩
            · have hltz : ¬ (e : Int) ≤ (w.size : Int) := by omega
              have hltb : decide ((e : Int) ≤ (w.size : Int)) = false := decide_eq_false (by omega)
              have h := HA.out
              rw [show w.size + 1 - e = 0 by omega] at h
              simp only [orP, Option.some.injEq] at h
              subst h
              clear HA
              go_wp2
              go_ret
              exact ⟨rfl, below_step HBW.out HB.out⟩
        · rw [if_neg ho] at h
          have hot : z.toList.isEmpty = false := by cases e : z.toList with
            | nil => exact absurd (by rw [ByteArray.toList_eq] at e; have := congrArg List.length e; rw [Array.length_toList] at this; exact this) ho
            | cons _ _ => rfl
          have hcall1 := Aside0.mk (fun W => Try.strings_HasPrefix (w.extract a w.size) z W)
          have ha1 := eq_true (show (0 : Int) ≤ (a : Int) by omega)
          have ha2 := eq_true (show (a : Int) ≤ (w.size : Int) by omega)
          have hp1 := eq_true (show (1 : Int) ≤ (p.size : Int) by omega)
          have hp2 := eq_true (show 1 ≤ p.size by omega)
          generalize Lib.hasPrefix (w.extract a w.size).data.toList z.data.toList = b at h hcall1
          cases b with
          | true =>
            simp only [if_true] at h
            have hle := matchP_le h
            have hcall2 := Aside0.mk (fun (W' : World) (hb' : Below w0.heap.size w0 W') => HI.out (p.extract 1 p.size) x y z (a + z.size) r W' (by rw [ByteArray.size_extract]; omega) hb' h)
            obtain ⟨s, hs⟩ : ∃ s, s = a + z.size := ⟨_, rfl⟩
            rw [← hs] at hcall2
            have hwr : wrap64 ((a : Int) + (z.size : Int)) = (s : Int) := by unfold wrap64; omega
            have hwr2 : IntKind.i64.wrap ((a : Int) + (z.size : Int)) = (s : Int) := (i64_w _).trans hwr
            clear hs hle h hget hset
            unfold vstr at hcall2
            simp only [List.map_cons, List.map_nil] at hcall2
            go_enter Try.func41, Try.ntmps41
            go_wp2
            have hn0 := blk_new W (Obj.cells #[Value.string x, Value.string y, Value.string z] 47)
            have hd0 : (W.alloc (Obj.cells #[Value.string x, Value.string y, Value.string z] 47)).cell? ⟨W.heap.size, 0, none⟩ = some (.string x) := (blk_cell hn0 0).trans rfl
            have hd1 : (W.alloc (Obj.cells #[Value.string x, Value.string y, Value.string z] 47)).cell? ⟨W.heap.size, 1, none⟩ = some (.string y) := (blk_cell hn0 1).trans rfl
            have hd2 : (W.alloc (Obj.cells #[Value.string x, Value.string y, Value.string z] 47)).cell? ⟨W.heap.size, 2, none⟩ = some (.string z) := (blk_cell hn0 2).trans rfl
            have HB1 := Aside0.mk (below_alloc HB0.out (Obj.cells #[Value.string x, Value.string y, Value.string z] 47))
            have HBW := Aside0.mk (below_alloc (Below.refl W.heap.size W) (Obj.cells #[Value.string x, Value.string y, Value.string z] 47))
            clear hn0 hblk
            generalize W.alloc (Obj.cells #[Value.string x, Value.string y, Value.string z] 47) = W1 at *
            refine wp_region_still_tail 15 (by kernel_rfl) (by kernel_rfl) ?_
            simp only [List.take_succ_cons, List.take_zero, List.drop_succ_cons, List.drop_zero]
            iterate 4 still_step
            still_call (hcall1.out _)
            repeat still_step
            refine wpStill_nil ?_
            change wpList _ _ _ _ _ W1.drew
            have HB2 := Aside0.mk (below_drew1 (Below.refl W1.heap.size W1))
            generalize W1.drew = w2 at *
            go_wp2_with (go_at_call 41; (refine (hcall2.out _ (below_step HB1.out HB2.out)).mono ?_); rintro e' w3 ⟨rfl, hb3⟩; have HB3 := Aside0.mk (below_step HB2.out hb3); clear hb3)
            go_ret
            exact ⟨rfl, below_step HBW.out HB3.out⟩
          | false =>
            simp only [Bool.false_eq_true, if_false, Option.some.injEq] at h
            subst h
            clear hget hset
            go_enter Try.func41, Try.ntmps41
            go_wp2
            have HBW := Aside0.mk (below_alloc (Below.refl W.heap.size W) (Obj.cells #[Value.string x, Value.string y, Value.string z] 47))
            clear hblk
            generalize W.alloc (Obj.cells #[Value.string x, Value.string y, Value.string z] 47) = W1 at *
            go_quiet (first | (go_at_call 51; refine Calls.quiet_of_same (hcall1.out _)))
            go_wp2
            go_ret
            exact ⟨rfl, pw_below_drewN HBW.out _⟩

def impl_fits.f (k : Nat) (a0 a1 : ByteArray) : Option Bool :=
  if a0.size ≤ 1099511627776 ∧ a1.size ≤ 1099511627776 then matchP a0 (fun _ e => some (decide (e = a0.size))) k a1 [ByteArray.empty, ByteArray.empty, ByteArray.empty] 0 else none
theorem impl_fits.mono : ∀ a0 a1 k, LeO (impl_fits.f k a0 a1) (impl_fits.f (k + 1) a0 a1) := fun a0 a1 k => LeO.ite (matchP_mono _ _ _ _ _ _) (LeO.refl _)
def impl_begins.f (k : Nat) (a0 a1 : ByteArray) : Option Bool :=
  if a0.size ≤ 1099511627776 ∧ a1.size ≤ 1099511627776 then matchP a0 (fun _ _ => some true) k a1 [ByteArray.empty, ByteArray.empty, ByteArray.empty] 0 else none
theorem impl_begins.mono : ∀ a0 a1 k, LeO (impl_begins.f k a0 a1) (impl_begins.f (k + 1) a0 a1) := fun a0 a1 k => LeO.ite (matchP_mono _ _ _ _ _ _) (LeO.refl _)

set_option maxHeartbeats 2000000 in
/-- The function value of fits: is it the end of the word? -/
theorem fits1 (w : ByteArray) (g T : Nat) (w0 : World) (hg : w0.heap[g]? = some (.cells #[.string w] T (0, 0))) : PredM (fun _ e => some (decide (e = w.size))) 42 #[.pointer (some ⟨g, 0, none⟩)] w0 := by
  intro vs e W hb hvs r h
  obtain rfl := Option.some.inj h
  clear h
  have hx := blk_cell1 (blk_below hg hb)
  have hd : decide (e = w.size) = decide ((e : Int) = (w.size : Int)) := decide_eq_decide.2 (by omega)
  rw [hd]
  show Calls Try.prog 42 #[vstr vs, .int .i64 e, .pointer (some ⟨g, 0, none⟩)] W _
  obtain ⟨x, y, z, rfl⟩ : ∃ x y z, vs = [x, y, z] := by
    match vs, hvs with
    | [x, y, z], _ => exact ⟨x, y, z, rfl⟩
  unfold vstr
  simp only [List.map_cons, List.map_nil]
  have hx2 : (W.alloc (Obj.cells #[Value.string x, Value.string y, Value.string z] 47)).cell? ⟨g, 0, none⟩ = some (.string w) := blk_cell1 (blk_alloc (blk_below hg hb) _)
  clear hg hb
  go_enter Try.func42, Try.ntmps42
  go_wp2
  go_ret
  exact ⟨by simp [Bool.beq_eq_decide_eq], below_alloc (Below.refl _ _) _⟩

set_option maxHeartbeats 2000000 in
/-- The function value of begins: always. -/
theorem begins1 (w0 : World) : PredM (fun _ _ => some true) 52 #[] w0 := by
  intro vs e W hb hvs r h
  obtain rfl := Option.some.inj h
  clear h hb
  show Calls Try.prog 52 #[vstr vs, .int .i64 e] W _
  obtain ⟨x, y, z, rfl⟩ : ∃ x y z, vs = [x, y, z] := by
    match vs, hvs with
    | [x, y, z], _ => exact ⟨x, y, z, rfl⟩
  unfold vstr
  simp only [List.map_cons, List.map_nil]
  go_enter Try.func52, Try.ntmps52
  go_wp2
  go_ret
  exact ⟨rfl, below_alloc (Below.refl _ _) _⟩

set_option maxHeartbeats 2000000 in
theorem impl_fits.calls (k : Nat) (a0 a1 : ByteArray) (r : Bool) (w : World) (h : impl_fits.f k a0 a1 = some r) :
    Calls Try.prog 26 #[.string a0, .string a1] w fun e w' => e = .returned (.bool r) ∧ Below w.heap.size w w' := by
  unfold impl_fits.f at h
  by_cases hs : a0.size ≤ 1099511627776 ∧ a1.size ≤ 1099511627776
  case neg => rw [if_neg hs] at h; cases h
  rw [if_pos hs] at h
  have e1 : ∀ args w, (callFunc 42 args).run Try.prog w = .ok (.enter 42 args) w := Go.Proofs.enters_of Try.func42 (by kernel_rfl) rfl
  have hcall := Aside0.mk (match_calls a0 hs.1 _ 42 #[.pointer (some ⟨w.heap.size, 0, none⟩)] (w.alloc (.cells #[.string a0] 9)) e1 (fits1 a0 w.heap.size 9 _ (blk_new w _)) k a1 _ _ _ 0 r (w.alloc (.cells #[.string a0] 9)) hs.2 (Below.refl _ _) h)
  clear h e1
  unfold vstr at hcall
  simp only [List.map_cons, List.map_nil] at hcall
  go_enter Try.func26, Try.ntmps26
  go_wp2_with (go_at_call 41; (refine hcall.out.mono ?_); rintro e w' ⟨rfl, hb'⟩)
  go_ret
  exact ⟨rfl, below_step (below_alloc (Below.refl _ _) _) hb'⟩

set_option maxHeartbeats 2000000 in
theorem impl_begins.calls (k : Nat) (a0 a1 : ByteArray) (r : Bool) (w : World) (h : impl_begins.f k a0 a1 = some r) :
    Calls Try.prog 44 #[.string a0, .string a1] w fun e w' => e = .returned (.bool r) ∧ Below w.heap.size w w' := by
  unfold impl_begins.f at h
  by_cases hs : a0.size ≤ 1099511627776 ∧ a1.size ≤ 1099511627776
  case neg => rw [if_neg hs] at h; cases h
  rw [if_pos hs] at h
  have e1 : ∀ args w, (callFunc 52 args).run Try.prog w = .ok (.enter 52 args) w := Go.Proofs.enters_of Try.func52 (by kernel_rfl) rfl
  have hcall := Aside0.mk (match_calls a0 hs.1 _ 52 #[] w e1 (begins1 w) k a1 _ _ _ 0 r w hs.2 (Below.refl _ _) h)
  clear h e1
  unfold vstr at hcall
  simp only [List.map_cons, List.map_nil] at hcall
  go_enter Try.func44, Try.ntmps44
  go_wp2_with (go_at_call 41; (refine hcall.out.mono ?_); rintro e w' ⟨rfl, hb'⟩)
  go_ret
  exact ⟨rfl, hb'⟩

end Go.Proofs.Ytgoccddcbooabaa.PF
