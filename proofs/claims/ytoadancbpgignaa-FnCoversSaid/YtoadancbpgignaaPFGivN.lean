/- Contracts of functions that take function values: areAll at lists of numbers, by walks of the program's text. -/
import Derived.Test.YtoadancbpgignaaPFGivA
namespace Go.Proofs.Ytoadancbpgignaa.PF
open Go.RowKit Go.Proofs.YtoadancbpgignaaW.PrintWords Go.Proofs.YtoadancbpgignaaW.PrintLast Go.Proofs.YtoadancbpgignaaW.PrintMore
set_option linter.unusedVariables false
set_option linter.unusedSimpArgs false

set_option maxHeartbeats 2000000 in
theorem IndexFuncN (p : Int → Option Bool) (n : Nat) (lb : Array Value) (A : Option Addr) (c : Nat) (l : List Int) (r : Int) (w : World) (eg : ∀ args w, (callFunc n args).run Try.prog w = .ok (.enter n args) w)
  (hr : Kd.C (Kd.int .i64) w A l.length l) (hc : l.length ≤ c) (hF : PredIn (Value.int .i64) p n lb w) (h : idxP p 0 l = some r) :
  Calls Try.prog 79 #[.slice A l.length c, .func (.func n) #[] lb] w fun e w' => e = .returned (.int .i64 r) ∧ Below w.heap.size w w' := by
 have hlen := hr.2.1
 have HR := Aside0.mk hr
 have HF := Aside0.mk hF
 have H' := Aside0.mk h
 clear hr hF h
 go_enter Try.func79, Try.ntmps79
 go_wp2
 go_loopg [5, 8] l.length (fun gg _ v8 wr => ∃ kk : Nat, kk ≤ l.length ∧ l.length - kk ≤ gg ∧ v8 = .int .i64 kk ∧ Aside0 (idxP p kk (l.drop kk) = some r) ∧ Aside0 (Below w.heap.size w wr))
 case atStart => exact ⟨0, Nat.zero_le _, by omega, rfl, ⟨H'.out⟩, ⟨Below.refl _ _⟩⟩
 case round =>
  clear H'
  obtain ⟨kk, hkk, hg, rfl, HA, HB⟩ := hrel
  by_cases hlt : kk < l.length
  ·
   have hltz : (kk : Int) < (l.length : Int) := by omega
   have hC' := Kd.C_below HR.out HB.out
   obtain ⟨ad, e1, hx⟩ := Kd.at_int hC' (kk : Int) (by omega) hltz
   clear hC'
   cases e1
   have hd := HA.out
   rw [rd_drop l kk hlt] at hd
   simp only [idxP] at hd
   obtain ⟨b, hb, hd⟩ := Option.bind_eq_some_iff.mp hd
   have hcall := Aside0.mk (HF.out _ wr HB.out b hb)
   clear hb
   generalize rd l (kk : Int) = y at hx hcall
   simp only [Int.toNat_natCast] at hx
   cases b with
   | true =>
    simp only [if_true, Option.some.injEq] at hd
    clear HA
    subst hd
    go_wp2_with (go_at_fn n; (with_reducible refine hcall.out.mono ?_); rintro e w' ⟨rfl, hb'⟩)
    go_ret
    exact ⟨rfl, HB.out.trans (hb'.mono HB.out.size)⟩
   | false =>
    simp only [Bool.false_eq_true, if_false] at hd
    have Hd := Aside0.mk hd
    clear hd HA
    go_wp2_with (go_at_fn n; (with_reducible refine hcall.out.mono ?_); rintro e w' ⟨rfl, hb'⟩)
    go_roundg (l.length - (kk + 1))
    case measure => omega
    case rel => exact ⟨kk + 1, by omega, by omega, by go_num, ⟨by rw [show ((kk + 1 : Nat) : Int) = (kk : Int) + 1 from rfl]; exact Hd.out⟩, ⟨HB.out.trans (hb'.mono HB.out.size)⟩⟩
  ·
   have hltz : ¬ (kk : Int) < (l.length : Int) := by omega
   have hd := HA.out
   rw [List.drop_eq_nil_of_le (by omega)] at hd
   simp only [idxP, Option.some.injEq] at hd
   clear HA
   subst hd
   go_wp2
   go_ret
   exact ⟨rfl, HB.out⟩

set_option maxHeartbeats 2000000 in
theorem ContainsFuncN (p : Int → Option Bool) (n : Nat) (lb : Array Value) (A : Option Addr) (c : Nat) (l : List Int) (j : Int) (w : World) (eg : ∀ args w, (callFunc n args).run Try.prog w = .ok (.enter n args) w)
  (hr : Kd.C (Kd.int .i64) w A l.length l) (hc : l.length ≤ c) (hF : PredIn (Value.int .i64) p n lb w) (h : idxP p 0 l = some j) :
  Calls Try.prog 66 #[.slice A l.length c, .func (.func n) #[] lb] w fun e w' => e = .returned (.bool (decide (0 ≤ j))) ∧ Below w.heap.size w w' := by
 have hlen := hr.2.1
 have hcall := Aside0.mk (fun W hb => IndexFuncN p n lb A c l j W eg (Kd.C_below hr hb) hc (hF.later hb) h)
 clear hr hF h
 go_enter Try.func66, Try.ntmps66
 go_wp2_with (go_at_call 79; (with_reducible refine (hcall.out _ (Below.refl _ _)).mono ?_); rintro e w' ⟨rfl, hb'⟩)
 go_ret
 exact ⟨rfl, hb'⟩

set_option maxHeartbeats 2000000 in
/-- The closure of areAll: not as told. -/
theorem areAllN1 (p : Int → Option Bool) (n : Nat) (lb : Array Value) (g T : Nat) (w0 : World) (eg : ∀ args w, (callFunc n args).run Try.prog w = .ok (.enter n args) w) (hF : PredIn (Value.int .i64) p n lb w0)
  (hg : w0.heap[g]? = some (.cells #[.func (.func n) #[] lb] T (0, 0))) : PredIn (Value.int .i64) (fun x => (p x).bind fun b => some (!b)) 67 #[.pointer (some ⟨g, 0, none⟩)] w0 := by
 intro x w hb0 r h
 have hx := blk_cell1 (blk_below hg hb0)
 obtain ⟨b, hb, h⟩ := Option.bind_eq_some_iff.mp h
 obtain rfl := Option.some.inj h
 have hcall := Aside0.mk (hF x w hb0 b hb)
 clear hF hb h hg hb0
 show Calls Try.prog 67 #[.int .i64 x, .pointer (some ⟨g, 0, none⟩)] w _
 go_enter Try.func67, Try.ntmps67
 go_wp2_with (go_at_fn n; (with_reducible refine hcall.out.mono ?_); rintro e w' ⟨rfl, hb'⟩)
 go_ret
 exact ⟨rfl, hb'⟩

def impl_areAll_int64.f (k : Nat) (l : List Int) (p : Int → Option Bool) : Option Bool := allP p l
theorem impl_areAll_int64.monoP {k : Nat} {p p' : Int → Option Bool} {l : List Int} (h : ∀ x, LeO (p x) (p' x)) : LeO (impl_areAll_int64.f k l p) (impl_areAll_int64.f (k + 1) l p') := allP_mono h l

set_option maxHeartbeats 2000000 in
theorem impl_areAll_int64.calls (k : Nat) (A0 : Option Addr) (c0 : Nat) (l0 : List Int) (p : Int → Option Bool) (n : Nat) (lb : Array Value) (r : Bool) (w : World)
  (hr : Kd.C (Kd.int .i64) w A0 l0.length l0) (hc : l0.length ≤ c0) (hF0 : (∀ args w, (callFunc n args).run Try.prog w = .ok (.enter n args) w) ∧ PredIn (Value.int .i64) p n lb w) (h : impl_areAll_int64.f k l0 p = some r) :
  Calls Try.prog 47 #[.slice A0 l0.length c0, .func (.func n) #[] lb] w fun e w' => e = .returned (.bool r) ∧ Below w.heap.size w w' := by
 obtain ⟨eg, hF⟩ := hF0
 have hlen := hr.2.1
 obtain ⟨j, hj, hjr⟩ := idxP_of_allP p l0 0 r (by omega) h
 obtain rfl : (!decide (0 ≤ j)) = r := by rw [show decide (0 ≤ j) = decide (j ≥ 0) from rfl, hjr]; simp
 have e1 : ∀ args w, (callFunc 67 args).run Try.prog w = .ok (.enter 67 args) w := Go.Proofs.enters_of Try.func67 (by kernel_rfl) rfl
 have hcall := Aside0.mk (fun (W : World) (g T : Nat) (hb : Below w.heap.size w W) (hg : W.heap[g]? = some (.cells #[.func (.func n) #[] lb] T (0, 0))) =>
  ContainsFuncN _ 67 #[.pointer (some ⟨g, 0, none⟩)] A0 c0 l0 j W e1 (Kd.C_below hr hb) hc (areAllN1 p n lb g T W eg (hF.later hb) hg) hj)
 clear hr hF h hj hjr e1 eg
 go_enter Try.func47, Try.ntmps47
 go_wp2_with (go_at_call 66; (with_reducible refine (hcall.out _ w.heap.size _ (by exact below_alloc (Below.refl _ _) _) (by exact blk_new _ _)).mono ?_); rintro e w' ⟨rfl, hb'⟩)
 go_ret
 exact ⟨rfl, below_step (below_alloc (Below.refl _ _) _) hb'⟩

end Go.Proofs.Ytoadancbpgignaa.PF
