/- Contracts of functions that take function values: areAll at letters, IsWord: what each returns, by walks of the program's text. -/
import Derived.Test.YtippkbjdifmdnaaDoorPFx0
import Derived.Shelf.Abstract
namespace Go.Proofs.YtippkbjdifmdnaaDoor.PF
open Go.RowKit Go.Proofs.YtippkbjdifmdnaaDoorW.PrintWords Go.Proofs.YtippkbjdifmdnaaDoorW.PrintLast Go.Proofs.YtippkbjdifmdnaaDoorW.PrintMore
set_option linter.unusedVariables false
set_option linter.unusedSimpArgs false

/-- All elements are as told, asked one behind the other. -/
def allP {α : Type} (p : α → Option Bool) : List α → Option Bool
  | [] => some true
  | x :: l => (p x).bind fun b => if b = true then allP p l else some false

theorem allP_mono {α : Type} {p p' : α → Option Bool} (h : ∀ x, LeO (p x) (p' x)) : ∀ l, LeO (allP p l) (allP p' l)
  | [] => LeO.refl _
  | x :: l => LeO.bind (h x) fun b => LeO.ite (allP_mono h l) (LeO.refl _)

/-- The place of the first element that is as told, or -1. -/
def idxP {α : Type} (p : α → Option Bool) : Int → List α → Option Int
  | _, [] => some (-1)
  | i, x :: l => (p x).bind fun b => if b = true then some i else idxP p (i + 1) l

theorem idxP_of_allP {α : Type} (p : α → Option Bool) : ∀ (l : List α) (i : Int) (r : Bool), 0 ≤ i → allP p l = some r → ∃ j, idxP (fun x => (p x).bind fun b => some (!b)) i l = some j ∧ (decide (j ≥ 0)) = !r
  | [], i, r, hi, h => by
    simp only [allP, Option.some.injEq] at h; subst h
    exact ⟨-1, rfl, by simp⟩
  | x :: l, i, r, hi, h => by
    simp only [allP] at h
    obtain ⟨b, hb, h⟩ := Option.bind_eq_some_iff.mp h
    cases b with
    | true =>
      simp only [if_true] at h
      obtain ⟨j, hj, hr⟩ := idxP_of_allP p l (i + 1) r (by omega) h
      exact ⟨j, by simp [idxP, hb, hj], hr⟩
    | false =>
      simp only [Bool.false_eq_true, if_false, Option.some.injEq] at h; subst h
      exact ⟨i, by simp [idxP, hb], by simp; omega⟩

/-- What is asked of a function value that is told one element: in every later world it answers, and changes nothing that was there. -/
def PredIn {α : Type} (enc : α → Value) (p : α → Option Bool) (n : Nat) (lb : Array Value) (w : World) : Prop :=
  ∀ (x : α) (W : World), Below w.heap.size w W → ∀ r, p x = some r → Calls Tryd.prog n (#[enc x] ++ lb) W fun e W' => e = .returned (.bool r) ∧ Below W.heap.size W W'

theorem PredIn.later {α : Type} {enc : α → Value} {p : α → Option Bool} {n : Nat} {lb : Array Value} {w W : World} (h : PredIn enc p n lb w) (hb : Below w.heap.size w W) : PredIn enc p n lb W :=
  fun x W' hb' => h x W' (hb.trans (hb'.mono hb.size))

theorem rdOf_drop {α : Type} (d : α) (l : List α) (k : Nat) (h : k < l.length) : l.drop k = rdOf d l (k : Int) :: l.drop (k + 1) := by
  rw [List.drop_eq_getElem_cons h]; simp [rdOf, h]

theorem blk_cell1 {w : World} {g : Nat} {v : Value} {T : TypeId} (h : w.heap[g]? = some (.cells #[v] T (0, 0))) : w.cell? ⟨g, 0, none⟩ = some v := (blk_cell h 0).trans rfl

theorem rd_drop (l : List Int) (k : Nat) (h : k < l.length) : l.drop k = rd l (k : Int) :: l.drop (k + 1) := by
  rw [List.drop_eq_getElem_cons h]; simp [rd, h]

set_option maxHeartbeats 2000000 in
theorem IndexFuncB (p : Int → Option Bool) (n : Nat) (lb : Array Value) (A : Option Addr) (c : Nat) (l : List Int) (r : Int) (w : World) (eg : ∀ args w, (callFunc n args).run Tryd.prog w = .ok (.enter n args) w)
    (hr : Kd.C (Kd.int .u8) w A l.length l) (hc : l.length ≤ c) (hF : PredIn (Value.int .u8) p n lb w) (h : idxP p 0 l = some r) :
    Calls Tryd.prog 53 #[.slice A l.length c, .func (.func n) #[] lb] w fun e w' => e = .returned (.int .i64 r) ∧ Below w.heap.size w w' := by
  have hlen := hr.2.1
  have HR := Aside0.mk hr
  have HF := Aside0.mk hF
  have H' := Aside0.mk h
  clear hr hF h
  go_enter Tryd.func53, Tryd.ntmps53
  go_wp2
  go_loopg [5, 8] l.length (fun gg _ v8 wr => ∃ kk : Nat, kk ≤ l.length ∧ l.length - kk ≤ gg ∧ v8 = .int .i64 kk ∧ Aside0 (idxP p kk (l.drop kk) = some r) ∧ Aside0 (Below w.heap.size w wr))
  case atStart => exact ⟨0, Nat.zero_le _, by omega, rfl, ⟨H'.out⟩, ⟨Below.refl _ _⟩⟩
  case round =>
    clear H'
    obtain ⟨kk, hkk, hg, rfl, HA, HB⟩ := hrel
    by_cases hlt : kk < l.length
    · have hltz : (kk : Int) < (l.length : Int) := by omega
      have hC' := Kd.C_below HR.out HB.out
      obtain ⟨ad, e1, hx⟩ := Kd.at_int hC' (kk : Int) (by omega) hltz
      clear hC'
      cases e1
      have hd := HA.out
      rw [rd_drop l kk hlt] at hd
      simp only [idxP] at hd
      obtain ⟨b, hb, hd⟩ := Option.bind_eq_some_iff.mp hd
      have hcall := Aside0.mk (HF.out _ wr HB.out b hb)
      clear hb
      generalize rd l (kk : Int) = y at hx hcall
      simp only [Int.toNat_natCast] at hx
      cases b with
      | true =>
        simp only [if_true, Option.some.injEq] at hd
        clear HA
        subst hd
        go_wp2_with (go_at_fn n; (with_reducible refine hcall.out.mono ?_); rintro e w' ⟨rfl, hb'⟩)
        go_ret
        exact ⟨rfl, HB.out.trans (hb'.mono HB.out.size)⟩
      | false =>
        simp only [Bool.false_eq_true, if_false] at hd
        have Hd := Aside0.mk hd
        clear hd HA
        go_wp2_with (go_at_fn n; (with_reducible refine hcall.out.mono ?_); rintro e w' ⟨rfl, hb'⟩)
        go_roundg (l.length - (kk + 1))
        case measure => omega
        case rel => exact ⟨kk + 1, by omega, by omega, by go_num, ⟨by rw [show ((kk + 1 : Nat) : Int) = (kk : Int) + 1 from rfl]; exact Hd.out⟩, ⟨HB.out.trans (hb'.mono HB.out.size)⟩⟩
    · have hltz : ¬ (kk : Int) < (l.length : Int) := by omega
      have hd := HA.out
      rw [List.drop_eq_nil_of_le (by omega)] at hd
      simp only [idxP, Option.some.injEq] at hd
      clear HA
      subst hd
      go_wp2
      go_ret
      exact ⟨rfl, HB.out⟩

set_option maxHeartbeats 2000000 in
theorem ContainsFuncB (p : Int → Option Bool) (n : Nat) (lb : Array Value) (A : Option Addr) (c : Nat) (l : List Int) (j : Int) (w : World) (eg : ∀ args w, (callFunc n args).run Tryd.prog w = .ok (.enter n args) w)
    (hr : Kd.C (Kd.int .u8) w A l.length l) (hc : l.length ≤ c) (hF : PredIn (Value.int .u8) p n lb w) (h : idxP p 0 l = some j) :
    Calls Tryd.prog 43 #[.slice A l.length c, .func (.func n) #[] lb] w fun e w' => e = .returned (.bool (decide (0 ≤ j))) ∧ Below w.heap.size w w' := by
  have hlen := hr.2.1
  have hcall := Aside0.mk (fun W hb => IndexFuncB p n lb A c l j W eg (Kd.C_below hr hb) hc (hF.later hb) h)
  clear hr hF h
  go_enter Tryd.func43, Tryd.ntmps43
  go_wp2_with (go_at_call 53; (with_reducible refine (hcall.out _ (Below.refl _ _)).mono ?_); rintro e w' ⟨rfl, hb'⟩)
  go_ret
  exact ⟨rfl, hb'⟩

set_option maxHeartbeats 2000000 in
/-- The closure of areAll: not as told. -/
theorem areAllB1 (p : Int → Option Bool) (n : Nat) (lb : Array Value) (g T : Nat) (w0 : World) (eg : ∀ args w, (callFunc n args).run Tryd.prog w = .ok (.enter n args) w) (hF : PredIn (Value.int .u8) p n lb w0)
    (hg : w0.heap[g]? = some (.cells #[.func (.func n) #[] lb] T (0, 0))) : PredIn (Value.int .u8) (fun x => (p x).bind fun b => some (!b)) 44 #[.pointer (some ⟨g, 0, none⟩)] w0 := by
  intro x w hb0 r h
  have hx := blk_cell1 (blk_below hg hb0)
  obtain ⟨b, hb, h⟩ := Option.bind_eq_some_iff.mp h
  obtain rfl := Option.some.inj h
  have hcall := Aside0.mk (hF x w hb0 b hb)
  clear hF hb h hg hb0
  show Calls Tryd.prog 44 #[.int .u8 x, .pointer (some ⟨g, 0, none⟩)] w _
  go_enter Tryd.func44, Tryd.ntmps44
  go_wp2_with (go_at_fn n; (with_reducible refine hcall.out.mono ?_); rintro e w' ⟨rfl, hb'⟩)
  go_ret
  exact ⟨rfl, hb'⟩

def impl_areAll_byte.f (k : Nat) (p : Int → Option Bool) (l : List Int) : Option Bool := allP p l
theorem impl_areAll_byte.monoP {k : Nat} {p p' : Int → Option Bool} {l : List Int} (h : ∀ x, LeO (p x) (p' x)) : LeO (impl_areAll_byte.f k p l) (impl_areAll_byte.f (k + 1) p' l) := allP_mono h l

set_option maxHeartbeats 2000000 in
theorem impl_areAll_byte.calls (k : Nat) (A0 : Option Addr) (c0 : Nat) (l0 : List Int) (p : Int → Option Bool) (n : Nat) (lb : Array Value) (r : Bool) (w : World)
    (hr : Kd.C (Kd.int .u8) w A0 l0.length l0) (hc : l0.length ≤ c0) (hF0 : (∀ args w, (callFunc n args).run Tryd.prog w = .ok (.enter n args) w) ∧ PredIn (Value.int .u8) p n lb w) (h : impl_areAll_byte.f k p l0 = some r) :
    Calls Tryd.prog 27 #[.slice A0 l0.length c0, .func (.func n) #[] lb] w fun e w' => e = .returned (.bool r) ∧ Below w.heap.size w w' := by
  obtain ⟨eg, hF⟩ := hF0
  have hlen := hr.2.1
  obtain ⟨j, hj, hjr⟩ := idxP_of_allP p l0 0 r (by omega) h
  obtain rfl : (!decide (0 ≤ j)) = r := by rw [show decide (0 ≤ j) = decide (j ≥ 0) from rfl, hjr]; simp
  have e1 : ∀ args w, (callFunc 44 args).run Tryd.prog w = .ok (.enter 44 args) w := Go.Proofs.enters_of Tryd.func44 (by kernel_rfl) rfl
  have hcall := Aside0.mk (fun (W : World) (g T : Nat) (hb : Below w.heap.size w W) (hg : W.heap[g]? = some (.cells #[.func (.func n) #[] lb] T (0, 0))) =>
    ContainsFuncB _ 44 #[.pointer (some ⟨g, 0, none⟩)] A0 c0 l0 j W e1 (Kd.C_below hr hb) hc (areAllB1 p n lb g T W eg (hF.later hb) hg) hj)
  clear hr hF h hj hjr e1 eg
  go_enter Tryd.func27, Tryd.ntmps27
  go_wp2_with (go_at_call 43; (with_reducible refine (hcall.out _ w.heap.size _ (by exact below_alloc (Below.refl _ _) _) (by exact blk_new _ _)).mono ?_); rintro e w' ⟨rfl, hb'⟩)
  go_ret
  exact ⟨rfl, below_step (below_alloc (Below.refl _ _) _) hb'⟩

/-- The letters of words. -/
def isLet (c : Int) : Bool := decide (97 ≤ c) && decide (c < 102)

theorem IsWord1 (w0 : World) : PredIn (Value.int .u8) (fun c => some (isLet c)) 28 #[] w0 := by
  intro x w hb0 r h
  obtain rfl := Option.some.inj h
  clear h hb0
  show Calls Tryd.prog 28 #[.int .u8 x] w _
  unfold isLet
  by_cases h1 : 97 ≤ x
  · have h1b : decide (97 ≤ x) = true := decide_eq_true h1
    rw [h1b]
    go_enter Tryd.func28, Tryd.ntmps28
    go_wp2
    go_ret
    exact ⟨rfl, Below.refl _ _⟩
  · have h1b : decide (97 ≤ x) = false := decide_eq_false h1
    rw [h1b]
    go_enter Tryd.func28, Tryd.ntmps28
    go_wp2
    go_ret
    exact ⟨rfl, Below.refl _ _⟩

theorem allP_some {α : Type} (p : α → Bool) : ∀ l : List α, allP (fun x => some (p x)) l = some (l.all p)
  | [] => rfl
  | x :: l => by
    simp only [allP, Option.bind_some, allP_some p l, List.all_cons]
    cases p x <;> simp

/-- Is it a word? -/
def isW (a : ByteArray) : Bool := decide (a.size ≤ 60) && (bytesOf a).all isLet
def impl_IsWord.f (a0 : ByteArray) : Option Bool := some (isW a0)

set_option maxHeartbeats 2000000 in
theorem impl_IsWord.calls (a0 : ByteArray) (r : Bool) (w : World) (h : impl_IsWord.f a0 = some r) :
    Calls Tryd.prog 20 #[.string a0] w fun e w' => e = .returned (.bool r) ∧ Below w.heap.size w w' := by
  obtain rfl := Option.some.inj h
  clear h
  unfold isW
  by_cases h1 : a0.size ≤ 60
  · have h1b : decide (a0.size ≤ 60) = true := decide_eq_true h1
    have h1c : decide ((a0.size : Int) ≤ 60) = true := decide_eq_true (by omega)
    rw [h1b]
    have kb := fun W => print_bytes (P := Tryd.prog) 9 44 5 Tryd.underlying9 Tryd.underlying44 Tryd.underlying5 a0 W
    have e1 : ∀ args w, (callFunc 28 args).run Tryd.prog w = .ok (.enter 28 args) w := Go.Proofs.enters_of Tryd.func28 (by kernel_rfl) rfl
    have hcall : Aside0 (∀ (W : World) (c : Nat), a0.size ≤ c → Calls Tryd.prog 27 #[.slice (some ⟨W.heap.size, 0, none⟩) a0.size c, .func (.func 28) #[] #[]] (Lib.bytesWorld W 5 a0) fun e w' => e = .returned (.bool ((bytesOf a0).all isLet)) ∧ Below (Lib.bytesWorld W 5 a0).heap.size (Lib.bytesWorld W 5 a0) w') := by
      refine ⟨fun W c hc => ?_⟩
      have h := impl_areAll_byte.calls 0 (some ⟨W.heap.size, 0, none⟩) c (bytesOf a0) (fun c => some (isLet c)) 28 #[] _ (Lib.bytesWorld W 5 a0)
        (by rw [bytesOf_length]; exact Kd.C_of_reads (d := (0 : Int)) (h1 := fun _ => rfl) (bytes_reads W 5 a0 (by omega))) (by rw [bytesOf_length]; exact hc) ⟨e1, IsWord1 _⟩ (allP_some isLet (bytesOf a0))
      rw [bytesOf_length] at h
      exact h
    clear e1
    go_enter Tryd.func20, Tryd.ntmps20
    go_wp2_with (go_at_call 27; (with_reducible refine (hcall.out _ _ (grownCap_ge _ _ _ _)).mono ?_); rintro e w' ⟨rfl, hb'⟩)
    go_ret
    exact ⟨rfl, below_step (bytes_below (Below.refl _ _) (Nat.le_refl _) _ _) hb'⟩
  · have h1b : decide (a0.size ≤ 60) = false := decide_eq_false h1
    have h1c : decide ((a0.size : Int) ≤ 60) = false := decide_eq_false (by omega)
    rw [h1b]
    go_enter Tryd.func20, Tryd.ntmps20
    go_wp2
    go_ret
    exact ⟨rfl, Below.refl _ _⟩

end Go.Proofs.YtippkbjdifmdnaaDoor.PF
