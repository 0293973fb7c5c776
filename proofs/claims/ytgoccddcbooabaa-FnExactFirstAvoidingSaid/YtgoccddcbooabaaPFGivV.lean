/- Given for the print: words that avoid a pattern, by hand: a function that calls itself and a function value that writes what it captured. -/
import Derived.Test.YtgoccddcbooabaaPFGivA
import Derived.Test.YtgoccddcbooabaaPFx14
import Derived.Test.YtgoccddcbooabaaPFx15
import Derived.Test.YtgoccddcbooabaaPFx12
import Derived.Test.YtgoccddcbooabaaPFx0
import Derived.Test.YtgoccddcbooabaaPFx0
namespace Go.Proofs.Ytgoccddcbooabaa.PF
open Go.RowKit Go.Proofs.YtgoccddcbooabaaW.PrintWords Go.Proofs.YtgoccddcbooabaaW.PrintLast Go.Proofs.YtgoccddcbooabaaW.PrintMore
set_option linter.unusedVariables false
set_option linter.unusedSimpArgs false

/-- One block may be written; all else that was there stays. -/
structure Only (g : Nat) (w w' : World) : Prop where
  os : w'.os = w.os
  tape : w'.tape = w.tape
  output : w'.output = w.output
  size : w.heap.size ≤ w'.heap.size
  block : ∀ k, k < w.heap.size → k ≠ g → w'.heap[k]? = w.heap[k]?
theorem Only.refl (g : Nat) (w : World) : Only g w w := ⟨rfl, rfl, rfl, Nat.le_refl _, fun _ _ _ => rfl⟩
theorem Only.trans {g : Nat} {w1 w2 w3 : World} (h : Only g w1 w2) (k : Only g w2 w3) : Only g w1 w3 :=
  ⟨k.os.trans h.os, k.tape.trans h.tape, k.output.trans h.output, Nat.le_trans h.size k.size, fun i hi hg => (k.block i (Nat.lt_of_lt_of_le hi h.size) hg).trans (h.block i hi hg)⟩
theorem Only.of_below {g : Nat} {w w' : World} (h : Below w.heap.size w w') : Only g w w' := ⟨h.os, h.tape, h.output, h.size, fun k hk _ => h.block k hk⟩
theorem Only.below {g m : Nat} {w0 w w' : World} (h : Below m w0 w) (hm : m ≤ g) (hw : m ≤ w.heap.size) (k : Only g w w') : Below m w0 w' :=
  ⟨k.os.trans h.os, k.tape.trans h.tape, k.output.trans h.output, Nat.le_trans h.size k.size, fun i hi => (k.block i (by omega) (by omega)).trans (h.block i hi)⟩
theorem Only.put (g : Nat) (w : World) (i : Nat) (u : Value) : Only g w (w.setCell ⟨g, i, none⟩ u) := by
  have h := Below.heap_setCell w ⟨g, i, none⟩ u
  refine ⟨rfl, rfl, rfl, ?_, fun k hk hg => h k hg⟩
  simp [World.setCell]

def orS {σ : Type} (f : Nat → σ → Option (Bool × σ)) : Nat → Nat → σ → Option (Bool × σ)
  | 0, _, s => some (false, s)
  | d + 1, i, s => (f i s).bind fun r => if r.1 = true then some r else orS f d (i + 1) r.2
theorem orS_mono {σ : Type} {f g : Nat → σ → Option (Bool × σ)} (h : ∀ i s, LeO (f i s) (g i s)) : ∀ d i s, LeO (orS f d i s) (orS g d i s)
  | 0, _, _ => LeO.refl _
  | d + 1, i, s => LeO.bind (h i s) fun r => LeO.ite (LeO.refl _) (orS_mono h d (i + 1) r.2)

/-- All words of n letters that go on from one and avoid a pattern are handed to what steps, till it says so. -/
def avoidP {σ : Type} (step : ByteArray → σ → Option (Bool × σ)) (p : ByteArray) (K : Nat) (n : Int) : Nat → ByteArray → σ → Option (Bool × σ)
  | 0, _, _ => none
  | k + 1, w, s => if (w.size : Int) = n then step w s
    else orS (fun i s => (impl_letter.f (i : Int)).bind fun c => if w.size + c.size ≤ 9223372036854775807 then ((impl_endsWith.f k (w ++ c) p).bind fun b => if b = true then some (false, s) else avoidP step p K n k (w ++ c) s) else none) K 0 s

theorem avoidP_mono {σ : Type} (step : ByteArray → σ → Option (Bool × σ)) (p : ByteArray) (K : Nat) (n : Int) : ∀ k w s, LeO (avoidP step p K n k w s) (avoidP step p K n (k + 1) w s) := by
  intro k
  induction k with
  | zero => exact fun w s => LeO.none _
  | succ k ih =>
    intro w s
    exact LeO.ite (LeO.refl _) (orS_mono (fun i s => LeO.bind (LeO.refl _) fun c => LeO.ite (LeO.bind (impl_endsWith.mono _ _ _) fun b => LeO.ite (LeO.refl _) (ih _ _)) (LeO.refl _)) _ _ _)

/-- What is asked of the function value: it turns the state that it captured. -/
def StepIn {σ : Type} (enc : σ → Value) (step : ByteArray → σ → Option (Bool × σ)) (m : Nat) (lb : Array Value) (g T : Nat) : Prop :=
  ∀ (x : ByteArray) (s : σ) (W : World), W.heap[g]? = some (.cells #[enc s] T (0, 0)) → ∀ r, step x s = some r → Calls Try.prog m (#[.string x] ++ lb) W fun e W' => e = .returned (.bool r.1) ∧ W'.heap[g]? = some (.cells #[enc r.2] T (0, 0)) ∧ Only g W W'

set_option maxHeartbeats 4000000 in
set_option maxRecDepth 100000 in
theorem avoiding_calls {σ : Type} (enc : σ → Value) (step : ByteArray → σ → Option (Bool × σ)) (m : Nat) (lb : Array Value) (g T : Nat) (eg : ∀ args w, (callFunc m args).run Try.prog w = .ok (.enter m args) w) (hF : StepIn enc step m lb g T)
    (p : ByteArray) (K : Nat) (hK : K ≤ 1000) (n : Int) :
    ∀ (k : Nat) (w : ByteArray) (s : σ) (r : Bool × σ) (W : World), W.heap[g]? = some (.cells #[enc s] T (0, 0)) → avoidP step p K n k w s = some r →
    Calls Try.prog 32 #[.string p, .int .i64 K, .int .i64 n, .string w, .func (.func m) #[] lb] W fun e W' => e = .returned (.bool r.1) ∧ W'.heap[g]? = some (.cells #[enc r.2] T (0, 0)) ∧ Only g W W' := by
  intro k
  induction k with
  | zero => intro w s r W hg h; cases h
  | succ k ih =>
    intro w s r W hg h
    have HI := Aside0.mk ih
    have HF := Aside0.mk hF
    have HG := Aside0.mk hg
    have hsz := Aside0.mk (fun W => impl_size.calls w (w.size : Int) W rfl)
    clear ih hF hg
    simp only [avoidP] at h
    by_cases hn : (w.size : Int) = n
    · rw [if_pos hn] at h
      have hn1 := eq_true hn
      have hn2 : ((w.size : Int) == n) = true := beq_iff_eq.mpr hn
      have hn3 : decide ((w.size : Int) = n) = true := decide_eq_true hn
      have hcall := Aside0.mk (fun (W' : World) (hb : W'.heap[g]? = some (.cells #[enc s] T (0, 0))) => HF.out w s W' hb r h)
      clear h
      go_enter Try.func32, Try.ntmps32
      go_wp2_with (first
        | (go_at_call 20; (with_reducible refine (hsz.out _).mono ?_); rintro e w1 ⟨rfl, hd1⟩; have HB1 := Aside0.mk hd1.below; clear hd1)
        | (go_at_fn m; (refine (hcall.out _ ?hb).mono ?_); (case hb => exact blk_below HG.out HB1.out); rintro e w2 ⟨rfl, hg2, hO2⟩; have HG2 := Aside0.mk hg2; have HO2 := Aside0.mk hO2; clear hg2 hO2))
      go_ret
      exact ⟨rfl, HG2.out, (Only.of_below HB1.out).trans HO2.out⟩
    · rw [if_neg hn] at h
      have hn1 := eq_false hn
      have hn2 : ((w.size : Int) == n) = false := beq_eq_false_iff_ne.mpr hn
      have hn3 : decide ((w.size : Int) = n) = false := decide_eq_false hn
      have HL := Aside0.mk h
      clear h hn
      go_enter Try.func32, Try.ntmps32
      go_wp2_with (first
        | (go_at_call 20; (with_reducible refine (hsz.out _).mono ?_); rintro e w1 ⟨rfl, hd1⟩; have HB1 := Aside0.mk hd1.below; clear hd1))
      have HG1 := Aside0.mk (blk_below HG.out HB1.out)
      have HO1 := Aside0.mk (Only.of_below (g := g) HB1.out)
      clear HG HB1 hsz
      go_loopg [10, 11, 12, 21] K (fun gg v10 _ _ v21 wr => ∃ (i : Nat) (t : σ), v21 = .int .i64 i ∧ i ≤ K ∧ K - i ≤ gg ∧ v10 = .bool false ∧
        Aside0 (orS (fun i s => (impl_letter.f (i : Int)).bind fun c => if w.size + c.size ≤ 9223372036854775807 then ((impl_endsWith.f k (w ++ c) p).bind fun b => if b = true then some (false, s) else avoidP step p K n k (w ++ c) s) else none) (K - i) i t = some r) ∧
        Aside0 (wr.heap[g]? = some (.cells #[enc t] T (0, 0))) ∧ Aside0 (Only g W wr))
      case atStart => exact ⟨0, s, rfl, by omega, by omega, rfl, HL, HG1, HO1⟩
      case round =>
        clear HL HG1 HO1
        obtain ⟨i, t, rfl, hi, hgg, rfl, HL, HG, HO⟩ := hrel
        by_cases hlt : i < K
        · have hltz := eq_true (show (i : Int) < (K : Int) by omega)
          have hltb : decide ((i : Int) < (K : Int)) = true := decide_eq_true (by omega)
          have h := HL.out
          rw [show K - i = (K - (i + 1)) + 1 by omega] at h
          simp only [orS] at h
          obtain ⟨q, hq, h⟩ := Option.bind_eq_some_iff.mp h
          obtain ⟨c, hc, hq⟩ := Option.bind_eq_some_iff.mp hq
          by_cases c8 : w.size + c.size ≤ 9223372036854775807
          case neg => rw [if_neg c8] at hq; cases hq
          rw [if_pos c8] at hq
          have c8b0 := eq_true c8
          have c8b1 : decide (w.size + c.size ≤ 9223372036854775807) = true := decide_eq_true c8
          have c8b2 : (9223372036854775807 < w.size + c.size) = False := eq_false (Nat.not_lt.2 c8)
          obtain ⟨b, hb, hq⟩ := Option.bind_eq_some_iff.mp hq
          have hcl := Aside0.mk (fun W => impl_letter.calls (i : Int) c W hc)
          have hce := Aside0.mk (fun W => impl_endsWith.calls k (w ++ c) p b W hb)
          clear hc hb HL
          cases b with
          | true =>
            simp only [if_true, Option.some.injEq] at hq
            subst hq
            simp only [Bool.false_eq_true, if_false] at h
            have H := Aside0.mk h
            clear h
            go_wp2_with (first
              | (go_at_call 47; (with_reducible refine (hcl.out _).mono ?_); rintro e w1 ⟨rfl, hd1⟩; have HB1 := Aside0.mk hd1; clear hd1)
              | (go_at_call 48; (with_reducible refine (hce.out _).mono ?_); rintro e w2 ⟨rfl, hd2⟩; have HB2 := Aside0.mk (below_step HB1.out hd2); clear hd2))
            go_roundg (K - (i + 1))
            case measure => omega
            case rel => exact ⟨i + 1, t, by go_num, by omega, by omega, rfl, H, ⟨blk_below HG.out HB2.out⟩, ⟨HO.out.trans (Only.of_below HB2.out)⟩⟩
          | false =>
            simp only [Bool.false_eq_true, if_false] at hq
            have hcall := Aside0.mk (fun (W' : World) (hb : W'.heap[g]? = some (.cells #[enc t] T (0, 0))) => HI.out (w ++ c) t q W' hb hq)
            clear hq
            obtain ⟨qb, qs⟩ := q
            have H := Aside0.mk h
            clear h
            cases qb with
            | true =>
              have h := H.out
              simp only [if_true, Option.some.injEq] at h
              subst h
              clear H
              go_wp2_with (first
                | (go_at_call 47; (with_reducible refine (hcl.out _).mono ?_); rintro e w1 ⟨rfl, hd1⟩; have HB1 := Aside0.mk hd1; clear hd1)
                | (go_at_call 48; (with_reducible refine (hce.out _).mono ?_); rintro e w2 ⟨rfl, hd2⟩; have HB2 := Aside0.mk (below_step HB1.out hd2); clear hd2)
                | (go_at_call 32; (refine (hcall.out _ ?hb).mono ?_); (case hb => exact blk_below HG.out HB2.out); rintro e w3 ⟨rfl, hg3, hO3⟩; have HG3 := Aside0.mk hg3; have HO3 := Aside0.mk ((HO.out.trans (Only.of_below HB2.out)).trans hO3); clear hg3 hO3))
              go_ret
              exact ⟨rfl, HG3.out, HO3.out⟩
            | false =>
              have h := H.out
              simp only [Bool.false_eq_true, if_false] at h
              have H2 := Aside0.mk h
              clear h H
              go_wp2_with (first
                | (go_at_call 47; (with_reducible refine (hcl.out _).mono ?_); rintro e w1 ⟨rfl, hd1⟩; have HB1 := Aside0.mk hd1; clear hd1)
                | (go_at_call 48; (with_reducible refine (hce.out _).mono ?_); rintro e w2 ⟨rfl, hd2⟩; have HB2 := Aside0.mk (below_step HB1.out hd2); clear hd2)
                | (go_at_call 32; (refine (hcall.out _ ?hb).mono ?_); (case hb => exact blk_below HG.out HB2.out); rintro e w3 ⟨rfl, hg3, hO3⟩; have HG3 := Aside0.mk hg3; have HO3 := Aside0.mk ((HO.out.trans (Only.of_below HB2.out)).trans hO3); clear hg3 hO3))
              go_roundg (K - (i + 1))
              case measure => omega
              case rel => exact ⟨i + 1, qs, by go_num, by omega, by omega, rfl, H2, HG3, HO3⟩
        · have hltz : ¬ (i : Int) < (K : Int) := by omega
          have hltb : decide ((i : Int) < (K : Int)) = false := decide_eq_false (by omega)
          have h := HL.out
          rw [show K - i = 0 by omega] at h
          simp only [orS, Option.some.injEq] at h
          subst h
          clear HL
          go_wp2
          go_ret
          exact ⟨rfl, HG.out, HO.out⟩

def cntStep (_ : ByteArray) (s : Int) : Option (Bool × Int) := some (false, wrap64 (s + 1))
def fstStep (w : ByteArray) (_ : ByteArray) : Option (Bool × ByteArray) := some (true, w)

set_option maxHeartbeats 2000000 in
theorem CountAvoiding1 (g : Nat) : StepIn (Value.int .i64) cntStep 33 #[.pointer (some ⟨g, 0, none⟩)] g 2 := by
  intro x s W hg r h
  obtain rfl := Option.some.inj h
  clear h
  have hx := blk_cell1 hg
  have hf : W.frozen? ⟨g, 0, none⟩ = false := blk_frozen hg 0
  have HP := Aside0.mk (blk_set hg 0 (.int .i64 (wrap64 (s + 1))))
  clear hg
  show Calls Try.prog 33 #[.string x, .pointer (some ⟨g, 0, none⟩)] W _
  go_enter Try.func33, Try.ntmps33
  go_wp2
  go_ret
  exact ⟨rfl, HP.out, Only.put g W 0 _⟩

set_option maxHeartbeats 2000000 in
theorem FirstAvoiding1 (g : Nat) : StepIn Value.string fstStep 35 #[.pointer (some ⟨g, 0, none⟩)] g 9 := by
  intro x s W hg r h
  obtain rfl := Option.some.inj h
  clear h
  have hx := blk_cell1 hg
  have hf : W.frozen? ⟨g, 0, none⟩ = false := blk_frozen hg 0
  have HP := Aside0.mk (blk_set hg 0 (.string x))
  clear hg
  show Calls Try.prog 35 #[.string x, .pointer (some ⟨g, 0, none⟩)] W _
  go_enter Try.func35, Try.ntmps35
  go_wp2
  go_ret
  exact ⟨rfl, HP.out, Only.put g W 0 _⟩

/-- Are both numbers in their ranges? -/
def bothIn (K m n l : Int) : Option Bool := (impl_within.f K 1 m).bind fun b => if b = true then impl_within.f n 0 l else some false

def impl_CountAvoiding.f (k : Nat) (p : ByteArray) (K n : Int) : Option (Int × Int) :=
  (bothIn K 3 n 9).bind fun b => (impl_avoidCode.f p b).bind fun c => if c = 0 then (if 0 ≤ K ∧ K ≤ 1000 then ((avoidP cntStep p K.toNat n k ⟨#[]⟩ 0).bind fun r => some (r.2, 0)) else none) else some (0, c)
theorem impl_CountAvoiding.mono : ∀ p K n k, LeO (impl_CountAvoiding.f k p K n) (impl_CountAvoiding.f (k + 1) p K n) := fun p K n k =>
  LeO.bind (LeO.refl _) fun b => LeO.bind (LeO.refl _) fun c => LeO.ite (LeO.ite (LeO.bind (avoidP_mono _ _ _ _ _ _ _) fun r => LeO.refl _) (LeO.refl _)) (LeO.refl _)
def impl_FirstAvoiding.f (k : Nat) (p : ByteArray) (K n : Int) : Option (ByteArray × Int) :=
  (bothIn K 3 n 12).bind fun b => (impl_avoidCode.f p b).bind fun c => if c = 0 then (if 0 ≤ K ∧ K ≤ 1000 then ((avoidP fstStep p K.toNat n k ⟨#[]⟩ ⟨#[]⟩).bind fun r => if r.1 = true then some (r.2, 0) else some (⟨#[]⟩, 4)) else none) else some (⟨#[]⟩, c)
theorem impl_FirstAvoiding.mono : ∀ p K n k, LeO (impl_FirstAvoiding.f k p K n) (impl_FirstAvoiding.f (k + 1) p K n) := fun p K n k =>
  LeO.bind (LeO.refl _) fun b => LeO.bind (LeO.refl _) fun c => LeO.ite (LeO.ite (LeO.bind (avoidP_mono _ _ _ _ _ _ _) fun r => LeO.refl _) (LeO.refl _)) (LeO.refl _)

set_option maxHeartbeats 4000000 in
set_option maxRecDepth 100000 in
theorem impl_CountAvoiding.calls (k : Nat) (p : ByteArray) (K n : Int) (r1 : Int) (r2 : Int) (w : World) (h : impl_CountAvoiding.f k p K n = some (r1, r2)) :
    Calls Try.prog 15 #[.string p, .int .i64 K, .int .i64 n] w fun e w' => e = .returned (.tuple #[.int .i64 r1, .int .i64 r2]) ∧ Below w.heap.size w w' := by
  obtain ⟨b, hb, h⟩ := Option.bind_eq_some_iff.mp h
  obtain ⟨c, hc, h⟩ := Option.bind_eq_some_iff.mp h
  obtain ⟨b1, hb1, hb⟩ := Option.bind_eq_some_iff.mp hb
  have hcf : b = false → c ≠ 0 := by
    rintro rfl rfl
    unfold impl_avoidCode.f impl_IsPattern.f at hc
    cases e : isP p <;> rw [e] at hc <;> simp at hc
  have hw1 := Aside0.mk (fun W => impl_within.calls K 1 3 b1 W hb1)
  have hcc := Aside0.mk (fun W => impl_avoidCode.calls p b c W hc)
  have H := Aside0.mk h
  clear hb1 hc h
  have e1 : Aside0 (∀ args w, (callFunc 33 args).run Try.prog w = .ok (.enter 33 args) w) := ⟨Go.Proofs.enters_of Try.func33 (by kernel_rfl) rfl⟩
  have HB := Aside0.mk (Below.refl w.heap.size w)
  have nz : c ≠ 0 → (c != 0) = true ∧ decide (c = 0) = false ∧ (c == 0) = false := fun hc0 => ⟨by simp [hc0], decide_eq_false hc0, beq_eq_false_iff_ne.mpr hc0⟩
  cases b1 with
  | true =>
    simp only [if_true] at hb
    have hw2 := Aside0.mk (fun W => impl_within.calls n 0 9 b W hb)
    clear hb
    by_cases hc0 : c = 0
    · subst hc0
      have h := H.out
      rw [if_pos rfl] at h
      by_cases hK : 0 ≤ K ∧ K ≤ 1000
      case neg => rw [if_neg hK] at h; cases h
      rw [if_pos hK] at h
      obtain ⟨⟨qb, q⟩, hq, h⟩ := Option.bind_eq_some_iff.mp h
      have hcall := Aside0.mk (fun (W : World) (g : Nat) (hg : W.heap[g]? = some (.cells #[.int .i64 0] 2 (0, 0))) => avoiding_calls (Value.int .i64) cntStep 33 #[.pointer (some ⟨g, 0, none⟩)] g 2 e1.out (CountAvoiding1 g) p K.toNat (by omega) n k ⟨#[]⟩ 0 (qb, q) W hg hq)
      rw [Int.toNat_of_nonneg hK.1] at hcall
      clear hq H hK hcf nz
      obtain ⟨rfl, rfl⟩ := Prod.mk.injEq _ _ _ _ ▸ Option.some.inj h
      clear h
      go_enter Try.func15, Try.ntmps15
      go_wp2_with (first
        | (go_at_call 19; (with_reducible refine (hw1.out _).mono ?_); rintro e w1 ⟨rfl, hd1⟩; have HB1 := Aside0.mk (below_step HB.out hd1.below); clear hd1 HB hw1)
        | (go_at_call 19; (with_reducible refine (hw2.out _).mono ?_); rintro e w2 ⟨rfl, hd2⟩; have HB2 := Aside0.mk (below_step HB1.out hd2.below); clear hd2 HB1 hw2)
        | (go_at_call 31; (with_reducible refine (hcc.out _).mono ?_); rintro e w3 ⟨rfl, hd3⟩; have HB3 := Aside0.mk (below_step HB2.out hd3); clear hd3 HB2)
        | (go_at_call 32; (refine (hcall.out _ w3.heap.size (by exact blk_new _ _)).mono ?_); rintro e w4 ⟨rfl, hg4, hO4⟩; have hx4 := blk_cell1 hg4; have HB4 := Aside0.mk (Only.below (below_alloc HB3.out _) HB3.out.size (below_alloc HB3.out _).size hO4); clear hg4 hO4))
      go_ret2
      exact ⟨rfl, HB4.out⟩
    · have h := H.out
      rw [if_neg hc0] at h
      obtain ⟨rfl, rfl⟩ := Prod.mk.injEq _ _ _ _ ▸ Option.some.inj h
      obtain ⟨hc1, hc2, hc3⟩ := nz hc0
      clear h H hcf nz
      go_enter Try.func15, Try.ntmps15
      go_wp2_with (first
        | (go_at_call 19; (with_reducible refine (hw1.out _).mono ?_); rintro e w1 ⟨rfl, hd1⟩; have HB1 := Aside0.mk (below_step HB.out hd1.below); clear hd1 HB hw1)
        | (go_at_call 19; (with_reducible refine (hw2.out _).mono ?_); rintro e w2 ⟨rfl, hd2⟩; have HB2 := Aside0.mk (below_step HB1.out hd2.below); clear hd2 HB1 hw2)
        | (go_at_call 31; (with_reducible refine (hcc.out _).mono ?_); rintro e w3 ⟨rfl, hd3⟩; have HB3 := Aside0.mk (below_step HB2.out hd3); clear hd3 HB2))
      go_ret2
      exact ⟨rfl, HB3.out⟩
  | false =>
      simp only [Bool.false_eq_true, if_false, Option.some.injEq] at hb
      subst hb
      have hc0 := hcf rfl
      have h := H.out
      rw [if_neg hc0] at h
      obtain ⟨rfl, rfl⟩ := Prod.mk.injEq _ _ _ _ ▸ Option.some.inj h
      obtain ⟨hc1, hc2, hc3⟩ := nz hc0
      clear h H hcf nz
      go_enter Try.func15, Try.ntmps15
      go_wp2_with (first
        | (go_at_call 19; (with_reducible refine (hw1.out _).mono ?_); rintro e w1 ⟨rfl, hd1⟩; have HB1 := Aside0.mk (below_step HB.out hd1.below); clear hd1 HB hw1)
        | (go_at_call 31; (with_reducible refine (hcc.out _).mono ?_); rintro e w3 ⟨rfl, hd3⟩; have HB3 := Aside0.mk (below_step HB1.out hd3); clear hd3 HB1))
      go_ret2
      exact ⟨rfl, HB3.out⟩

set_option maxHeartbeats 4000000 in
set_option maxRecDepth 100000 in
theorem impl_FirstAvoiding.calls (k : Nat) (p : ByteArray) (K n : Int) (r1 : ByteArray) (r2 : Int) (w : World) (h : impl_FirstAvoiding.f k p K n = some (r1, r2)) :
    Calls Try.prog 17 #[.string p, .int .i64 K, .int .i64 n] w fun e w' => e = .returned (.tuple #[.string r1, .int .i64 r2]) ∧ Below w.heap.size w w' := by
  obtain ⟨b, hb, h⟩ := Option.bind_eq_some_iff.mp h
  obtain ⟨c, hc, h⟩ := Option.bind_eq_some_iff.mp h
  obtain ⟨b1, hb1, hb⟩ := Option.bind_eq_some_iff.mp hb
  have hcf : b = false → c ≠ 0 := by
    rintro rfl rfl
    unfold impl_avoidCode.f impl_IsPattern.f at hc
    cases e : isP p <;> rw [e] at hc <;> simp at hc
  have hw1 := Aside0.mk (fun W => impl_within.calls K 1 3 b1 W hb1)
  have hcc := Aside0.mk (fun W => impl_avoidCode.calls p b c W hc)
  have H := Aside0.mk h
  clear hb1 hc h
  have e1 : Aside0 (∀ args w, (callFunc 35 args).run Try.prog w = .ok (.enter 35 args) w) := ⟨Go.Proofs.enters_of Try.func35 (by kernel_rfl) rfl⟩
  have HB := Aside0.mk (Below.refl w.heap.size w)
  have nz : c ≠ 0 → (c != 0) = true ∧ decide (c = 0) = false ∧ (c == 0) = false := fun hc0 => ⟨by simp [hc0], decide_eq_false hc0, beq_eq_false_iff_ne.mpr hc0⟩
  cases b1 with
  | true =>
    simp only [if_true] at hb
    have hw2 := Aside0.mk (fun W => impl_within.calls n 0 12 b W hb)
    clear hb
    by_cases hc0 : c = 0
    · subst hc0
      have h := H.out
      rw [if_pos rfl] at h
      by_cases hK : 0 ≤ K ∧ K ≤ 1000
      case neg => rw [if_neg hK] at h; cases h
      rw [if_pos hK] at h
      obtain ⟨⟨qb, q⟩, hq, h⟩ := Option.bind_eq_some_iff.mp h
      have hcall := Aside0.mk (fun (W : World) (g : Nat) (hg : W.heap[g]? = some (.cells #[.string ⟨#[]⟩] 9 (0, 0))) => avoiding_calls (Value.string) fstStep 35 #[.pointer (some ⟨g, 0, none⟩)] g 9 e1.out (FirstAvoiding1 g) p K.toNat (by omega) n k ⟨#[]⟩ ⟨#[]⟩ (qb, q) W hg hq)
      rw [Int.toNat_of_nonneg hK.1] at hcall
      clear hq H hK hcf nz
      cases qb with
      | true =>
      simp only [if_true] at h
      obtain ⟨rfl, rfl⟩ := Prod.mk.injEq _ _ _ _ ▸ Option.some.inj h
      clear h
      go_enter Try.func17, Try.ntmps17
      go_wp2_with (first
        | (go_at_call 19; (with_reducible refine (hw1.out _).mono ?_); rintro e w1 ⟨rfl, hd1⟩; have HB1 := Aside0.mk (below_step HB.out hd1.below); clear hd1 HB hw1)
        | (go_at_call 19; (with_reducible refine (hw2.out _).mono ?_); rintro e w2 ⟨rfl, hd2⟩; have HB2 := Aside0.mk (below_step HB1.out hd2.below); clear hd2 HB1 hw2)
        | (go_at_call 31; (with_reducible refine (hcc.out _).mono ?_); rintro e w3 ⟨rfl, hd3⟩; have HB3 := Aside0.mk (below_step HB2.out hd3); clear hd3 HB2)
        | (go_at_call 32; (refine (hcall.out _ w3.heap.size (by exact blk_new _ _)).mono ?_); rintro e w4 ⟨rfl, hg4, hO4⟩; have hx4 := blk_cell1 hg4; have HB4 := Aside0.mk (Only.below (below_alloc HB3.out _) HB3.out.size (below_alloc HB3.out _).size hO4); clear hg4 hO4))
      go_ret2
      exact ⟨rfl, HB4.out⟩
      | false =>
      simp only [Bool.false_eq_true, if_false] at h
      obtain ⟨rfl, rfl⟩ := Prod.mk.injEq _ _ _ _ ▸ Option.some.inj h
      clear h
      go_enter Try.func17, Try.ntmps17
      go_wp2_with (first
        | (go_at_call 19; (with_reducible refine (hw1.out _).mono ?_); rintro e w1 ⟨rfl, hd1⟩; have HB1 := Aside0.mk (below_step HB.out hd1.below); clear hd1 HB hw1)
        | (go_at_call 19; (with_reducible refine (hw2.out _).mono ?_); rintro e w2 ⟨rfl, hd2⟩; have HB2 := Aside0.mk (below_step HB1.out hd2.below); clear hd2 HB1 hw2)
        | (go_at_call 31; (with_reducible refine (hcc.out _).mono ?_); rintro e w3 ⟨rfl, hd3⟩; have HB3 := Aside0.mk (below_step HB2.out hd3); clear hd3 HB2)
        | (go_at_call 32; (refine (hcall.out _ w3.heap.size (by exact blk_new _ _)).mono ?_); rintro e w4 ⟨rfl, hg4, hO4⟩; have hx4 := blk_cell1 hg4; have HB4 := Aside0.mk (Only.below (below_alloc HB3.out _) HB3.out.size (below_alloc HB3.out _).size hO4); clear hg4 hO4))
      go_ret2
      exact ⟨rfl, HB4.out⟩
    · have h := H.out
      rw [if_neg hc0] at h
      obtain ⟨rfl, rfl⟩ := Prod.mk.injEq _ _ _ _ ▸ Option.some.inj h
      obtain ⟨hc1, hc2, hc3⟩ := nz hc0
      clear h H hcf nz
      go_enter Try.func17, Try.ntmps17
      go_wp2_with (first
        | (go_at_call 19; (with_reducible refine (hw1.out _).mono ?_); rintro e w1 ⟨rfl, hd1⟩; have HB1 := Aside0.mk (below_step HB.out hd1.below); clear hd1 HB hw1)
        | (go_at_call 19; (with_reducible refine (hw2.out _).mono ?_); rintro e w2 ⟨rfl, hd2⟩; have HB2 := Aside0.mk (below_step HB1.out hd2.below); clear hd2 HB1 hw2)
        | (go_at_call 31; (with_reducible refine (hcc.out _).mono ?_); rintro e w3 ⟨rfl, hd3⟩; have HB3 := Aside0.mk (below_step HB2.out hd3); clear hd3 HB2))
      go_ret2
      exact ⟨rfl, HB3.out⟩
  | false =>
      simp only [Bool.false_eq_true, if_false, Option.some.injEq] at hb
      subst hb
      have hc0 := hcf rfl
      have h := H.out
      rw [if_neg hc0] at h
      obtain ⟨rfl, rfl⟩ := Prod.mk.injEq _ _ _ _ ▸ Option.some.inj h
      obtain ⟨hc1, hc2, hc3⟩ := nz hc0
      clear h H hcf nz
      go_enter Try.func17, Try.ntmps17
      go_wp2_with (first
        | (go_at_call 19; (with_reducible refine (hw1.out _).mono ?_); rintro e w1 ⟨rfl, hd1⟩; have HB1 := Aside0.mk (below_step HB.out hd1.below); clear hd1 HB hw1)
        | (go_at_call 31; (with_reducible refine (hcc.out _).mono ?_); rintro e w3 ⟨rfl, hd3⟩; have HB3 := Aside0.mk (below_step HB1.out hd3); clear hd3 HB1))
      go_ret2
      exact ⟨rfl, HB3.out⟩

end Go.Proofs.Ytgoccddcbooabaa.PF
