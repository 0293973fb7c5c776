/- Contracts of functions that take function values: IsWord, areAll at strings, wordCode: what each returns, by walks of the program's text. -/
import Derived.Test.YtippkbjdifmdnaaPFx0
import Derived.Shelf.Abstract
namespace Go.Proofs.Ytippkbjdifmdnaa.PF
open Go.RowKit Go.Proofs.YtippkbjdifmdnaaW.PrintWords Go.Proofs.YtippkbjdifmdnaaW.PrintLast Go.Proofs.YtippkbjdifmdnaaW.PrintMore
set_option linter.unusedVariables false
set_option linter.unusedSimpArgs false

/-- All elements are as told, asked one behind the other. -/
def allP {α : Type} (p : α → Option Bool) : List α → Option Bool
  | [] => some true
  | x :: l => (p x).bind fun b => if b = true then allP p l else some false

theorem allP_mono {α : Type} {p p' : α → Option Bool} (h : ∀ x, LeO (p x) (p' x)) : ∀ l, LeO (allP p l) (allP p' l)
  | [] => LeO.refl _
  | x :: l => LeO.bind (h x) fun b => LeO.ite (allP_mono h l) (LeO.refl _)

/-- The place of the first element that is as told, or -1. -/
def idxP {α : Type} (p : α → Option Bool) : Int → List α → Option Int
  | _, [] => some (-1)
  | i, x :: l => (p x).bind fun b => if b = true then some i else idxP p (i + 1) l

theorem idxP_of_allP {α : Type} (p : α → Option Bool) : ∀ (l : List α) (i : Int) (r : Bool), 0 ≤ i → allP p l = some r → ∃ j, idxP (fun x => (p x).bind fun b => some (!b)) i l = some j ∧ (decide (j ≥ 0)) = !r
  | [], i, r, hi, h => by
    simp only [allP, Option.some.injEq] at h; subst h
    exact ⟨-1, rfl, by simp⟩
  | x :: l, i, r, hi, h => by
    simp only [allP] at h
    obtain ⟨b, hb, h⟩ := Option.bind_eq_some_iff.mp h
    cases b with
    | true =>
      simp only [if_true] at h
      obtain ⟨j, hj, hr⟩ := idxP_of_allP p l (i + 1) r (by omega) h
      exact ⟨j, by simp [idxP, hb, hj], hr⟩
    | false =>
      simp only [Bool.false_eq_true, if_false, Option.some.injEq] at h; subst h
      exact ⟨i, by simp [idxP, hb], by simp; omega⟩

/-- What is asked of a function value that is told one element: in every later world it answers, and changes nothing that was there. -/
def PredIn {α : Type} (enc : α → Value) (p : α → Option Bool) (n : Nat) (lb : Array Value) (w : World) : Prop :=
  ∀ (x : α) (W : World), Below w.heap.size w W → ∀ r, p x = some r → Calls Try.prog n (#[enc x] ++ lb) W fun e W' => e = .returned (.bool r) ∧ Below W.heap.size W W'

theorem PredIn.later {α : Type} {enc : α → Value} {p : α → Option Bool} {n : Nat} {lb : Array Value} {w W : World} (h : PredIn enc p n lb w) (hb : Below w.heap.size w W) : PredIn enc p n lb W :=
  fun x W' hb' => h x W' (hb.trans (hb'.mono hb.size))

theorem rdOf_drop {α : Type} (d : α) (l : List α) (k : Nat) (h : k < l.length) : l.drop k = rdOf d l (k : Int) :: l.drop (k + 1) := by
  rw [List.drop_eq_getElem_cons h]; simp [rdOf, h]

set_option maxHeartbeats 2000000 in
theorem IndexFuncS (p : ByteArray → Option Bool) (n : Nat) (lb : Array Value) (A : Option Addr) (c : Nat) (l : List ByteArray) (r : Int) (w : World) (eg : ∀ args w, (callFunc n args).run Try.prog w = .ok (.enter n args) w)
    (hr : Kd.C Kd.string w A l.length l) (hc : l.length ≤ c) (hF : PredIn Value.string p n lb w) (h : idxP p 0 l = some r) :
    Calls Try.prog 87 #[.slice A l.length c, .func (.func n) #[] lb] w fun e w' => e = .returned (.int .i64 r) ∧ Below w.heap.size w w' := by
  have hlen := hr.2.1
  have HR := Aside0.mk hr
  have HF := Aside0.mk hF
  have H' := Aside0.mk h
  clear hr hF h
  go_enter Try.func87, Try.ntmps87
  go_wp2
  go_loopg [5, 8] l.length (fun gg _ v8 wr => ∃ kk : Nat, kk ≤ l.length ∧ l.length - kk ≤ gg ∧ v8 = .int .i64 kk ∧ Aside0 (idxP p kk (l.drop kk) = some r) ∧ Aside0 (Below w.heap.size w wr))
  case atStart => exact ⟨0, Nat.zero_le _, by omega, rfl, ⟨H'.out⟩, ⟨Below.refl _ _⟩⟩
  case round =>
    clear H'
    obtain ⟨kk, hkk, hg, rfl, HA, HB⟩ := hrel
    by_cases hlt : kk < l.length
    · have hltz : (kk : Int) < (l.length : Int) := by omega
      have hC' := Kd.C_below HR.out HB.out
      obtain ⟨ad, e1, hx⟩ := Kd.at_string hC' (kk : Int) (by omega) hltz
      clear hC'
      cases e1
      have hd := HA.out
      rw [rdOf_drop ByteArray.empty l kk hlt] at hd
      simp only [idxP] at hd
      obtain ⟨b, hb, hd⟩ := Option.bind_eq_some_iff.mp hd
      have hcall := Aside0.mk (HF.out _ wr HB.out b hb)
      clear hb
      generalize rdOf ByteArray.empty l (kk : Int) = y at hx hcall
      simp only [Int.toNat_natCast] at hx
      cases b with
      | true =>
        simp only [if_true, Option.some.injEq] at hd
        clear HA
        subst hd
        go_wp2_with (go_at_fn n; (with_reducible refine hcall.out.mono ?_); rintro e w' ⟨rfl, hb'⟩)
        go_ret
        exact ⟨rfl, HB.out.trans (hb'.mono HB.out.size)⟩
      | false =>
        simp only [Bool.false_eq_true, if_false] at hd
        have Hd := Aside0.mk hd
        clear hd HA
        go_wp2_with (go_at_fn n; (with_reducible refine hcall.out.mono ?_); rintro e w' ⟨rfl, hb'⟩)
        go_roundg (l.length - (kk + 1))
        case measure => omega
        case rel => exact ⟨kk + 1, by omega, by omega, by go_num, ⟨by rw [show ((kk + 1 : Nat) : Int) = (kk : Int) + 1 from rfl]; exact Hd.out⟩, ⟨HB.out.trans (hb'.mono HB.out.size)⟩⟩
    · have hltz : ¬ (kk : Int) < (l.length : Int) := by omega
      have hd := HA.out
      rw [List.drop_eq_nil_of_le (by omega)] at hd
      simp only [idxP, Option.some.injEq] at hd
      clear HA
      subst hd
      go_wp2
      go_ret
      exact ⟨rfl, HB.out⟩

set_option maxHeartbeats 2000000 in
theorem ContainsFuncS (p : ByteArray → Option Bool) (n : Nat) (lb : Array Value) (A : Option Addr) (c : Nat) (l : List ByteArray) (j : Int) (w : World) (eg : ∀ args w, (callFunc n args).run Try.prog w = .ok (.enter n args) w)
    (hr : Kd.C Kd.string w A l.length l) (hc : l.length ≤ c) (hF : PredIn Value.string p n lb w) (h : idxP p 0 l = some j) :
    Calls Try.prog 78 #[.slice A l.length c, .func (.func n) #[] lb] w fun e w' => e = .returned (.bool (decide (0 ≤ j))) ∧ Below w.heap.size w w' := by
  have hlen := hr.2.1
  have hcall := Aside0.mk (fun W hb => IndexFuncS p n lb A c l j W eg (Kd.C_below hr hb) hc (hF.later hb) h)
  clear hr hF h
  go_enter Try.func78, Try.ntmps78
  go_wp2_with (go_at_call 87; (with_reducible refine (hcall.out _ (Below.refl _ _)).mono ?_); rintro e w' ⟨rfl, hb'⟩)
  go_ret
  exact ⟨rfl, hb'⟩

theorem blk_cell1 {w : World} {g : Nat} {v : Value} {T : TypeId} (h : w.heap[g]? = some (.cells #[v] T (0, 0))) : w.cell? ⟨g, 0, none⟩ = some v := (blk_cell h 0).trans rfl

set_option maxHeartbeats 2000000 in
/-- The closure of areAll: not as told. -/
theorem areAllS1 (p : ByteArray → Option Bool) (n : Nat) (lb : Array Value) (g T : Nat) (w0 : World) (eg : ∀ args w, (callFunc n args).run Try.prog w = .ok (.enter n args) w) (hF : PredIn Value.string p n lb w0)
    (hg : w0.heap[g]? = some (.cells #[.func (.func n) #[] lb] T (0, 0))) : PredIn Value.string (fun x => (p x).bind fun b => some (!b)) 79 #[.pointer (some ⟨g, 0, none⟩)] w0 := by
  intro x w hb0 r h
  have hx := blk_cell1 (blk_below hg hb0)
  obtain ⟨b, hb, h⟩ := Option.bind_eq_some_iff.mp h
  obtain rfl := Option.some.inj h
  have hcall := Aside0.mk (hF x w hb0 b hb)
  clear hF hb h hg hb0
  show Calls Try.prog 79 #[.string x, .pointer (some ⟨g, 0, none⟩)] w _
  go_enter Try.func79, Try.ntmps79
  go_wp2_with (go_at_fn n; (with_reducible refine hcall.out.mono ?_); rintro e w' ⟨rfl, hb'⟩)
  go_ret
  exact ⟨rfl, hb'⟩

def impl_areAll_string.f (k : Nat) (p : ByteArray → Option Bool) (l : List ByteArray) : Option Bool := allP p l
theorem impl_areAll_string.monoP {k : Nat} {p p' : ByteArray → Option Bool} {l : List ByteArray} (h : ∀ x, LeO (p x) (p' x)) : LeO (impl_areAll_string.f k p l) (impl_areAll_string.f (k + 1) p' l) := allP_mono h l

set_option maxHeartbeats 2000000 in
theorem impl_areAll_string.calls (k : Nat) (A0 : Option Addr) (c0 : Nat) (l0 : List ByteArray) (p : ByteArray → Option Bool) (n : Nat) (lb : Array Value) (r : Bool) (w : World)
    (hr : Kd.C Kd.string w A0 l0.length l0) (hc : l0.length ≤ c0) (hF0 : (∀ args w, (callFunc n args).run Try.prog w = .ok (.enter n args) w) ∧ PredIn Value.string p n lb w) (h : impl_areAll_string.f k p l0 = some r) :
    Calls Try.prog 66 #[.slice A0 l0.length c0, .func (.func n) #[] lb] w fun e w' => e = .returned (.bool r) ∧ Below w.heap.size w w' := by
  obtain ⟨eg, hF⟩ := hF0
  have hlen := hr.2.1
  obtain ⟨j, hj, hjr⟩ := idxP_of_allP p l0 0 r (by omega) h
  obtain rfl : (!decide (0 ≤ j)) = r := by rw [show decide (0 ≤ j) = decide (j ≥ 0) from rfl, hjr]; simp
  have e1 : ∀ args w, (callFunc 79 args).run Try.prog w = .ok (.enter 79 args) w := Go.Proofs.enters_of Try.func79 (by kernel_rfl) rfl
  have hcall := Aside0.mk (fun (W : World) (g T : Nat) (hb : Below w.heap.size w W) (hg : W.heap[g]? = some (.cells #[.func (.func n) #[] lb] T (0, 0))) =>
    ContainsFuncS _ 79 #[.pointer (some ⟨g, 0, none⟩)] A0 c0 l0 j W e1 (Kd.C_below hr hb) hc (areAllS1 p n lb g T W eg (hF.later hb) hg) hj)
  clear hr hF h hj hjr e1 eg
  go_enter Try.func66, Try.ntmps66
  go_wp2_with (go_at_call 78; (with_reducible refine (hcall.out _ w.heap.size _ (by exact below_alloc (Below.refl _ _) _) (by exact blk_new _ _)).mono ?_); rintro e w' ⟨rfl, hb'⟩)
  go_ret
  exact ⟨rfl, below_step (below_alloc (Below.refl _ _) _) hb'⟩

theorem rd_drop (l : List Int) (k : Nat) (h : k < l.length) : l.drop k = rd l (k : Int) :: l.drop (k + 1) := by
  rw [List.drop_eq_getElem_cons h]; simp [rd, h]

set_option maxHeartbeats 2000000 in
theorem IndexFuncB (p : Int → Option Bool) (n : Nat) (lb : Array Value) (A : Option Addr) (c : Nat) (l : List Int) (r : Int) (w : World) (eg : ∀ args w, (callFunc n args).run Try.prog w = .ok (.enter n args) w)
    (hr : Kd.C (Kd.int .u8) w A l.length l) (hc : l.length ≤ c) (hF : PredIn (Value.int .u8) p n lb w) (h : idxP p 0 l = some r) :
    Calls Try.prog 110 #[.slice A l.length c, .func (.func n) #[] lb] w fun e w' => e = .returned (.int .i64 r) ∧ Below w.heap.size w w' := by
  have hlen := hr.2.1
  have HR := Aside0.mk hr
  have HF := Aside0.mk hF
  have H' := Aside0.mk h
  clear hr hF h
  go_enter Try.func110, Try.ntmps110
  go_wp2
  go_loopg [5, 8] l.length (fun gg _ v8 wr => ∃ kk : Nat, kk ≤ l.length ∧ l.length - kk ≤ gg ∧ v8 = .int .i64 kk ∧ Aside0 (idxP p kk (l.drop kk) = some r) ∧ Aside0 (Below w.heap.size w wr))
  case atStart => exact ⟨0, Nat.zero_le _, by omega, rfl, ⟨H'.out⟩, ⟨Below.refl _ _⟩⟩
  case round =>
    clear H'
    obtain ⟨kk, hkk, hg, rfl, HA, HB⟩ := hrel
    by_cases hlt : kk < l.length
    · have hltz : (kk : Int) < (l.length : Int) := by omega
      have hC' := Kd.C_below HR.out HB.out
      obtain ⟨ad, e1, hx⟩ := Kd.at_int hC' (kk : Int) (by omega) hltz
      clear hC'
      cases e1
      have hd := HA.out
      rw [rd_drop l kk hlt] at hd
      simp only [idxP] at hd
      obtain ⟨b, hb, hd⟩ := Option.bind_eq_some_iff.mp hd
      have hcall := Aside0.mk (HF.out _ wr HB.out b hb)
      clear hb
      generalize rd l (kk : Int) = y at hx hcall
      simp only [Int.toNat_natCast] at hx
      cases b with
      | true =>
        simp only [if_true, Option.some.injEq] at hd
        clear HA
        subst hd
        go_wp2_with (go_at_fn n; (with_reducible refine hcall.out.mono ?_); rintro e w' ⟨rfl, hb'⟩)
        go_ret
        exact ⟨rfl, HB.out.trans (hb'.mono HB.out.size)⟩
      | false =>
        simp only [Bool.false_eq_true, if_false] at hd
        have Hd := Aside0.mk hd
        clear hd HA
        go_wp2_with (go_at_fn n; (with_reducible refine hcall.out.mono ?_); rintro e w' ⟨rfl, hb'⟩)
        go_roundg (l.length - (kk + 1))
        case measure => omega
        case rel => exact ⟨kk + 1, by omega, by omega, by go_num, ⟨by rw [show ((kk + 1 : Nat) : Int) = (kk : Int) + 1 from rfl]; exact Hd.out⟩, ⟨HB.out.trans (hb'.mono HB.out.size)⟩⟩
    · have hltz : ¬ (kk : Int) < (l.length : Int) := by omega
      have hd := HA.out
      rw [List.drop_eq_nil_of_le (by omega)] at hd
      simp only [idxP, Option.some.injEq] at hd
      clear HA
      subst hd
      go_wp2
      go_ret
      exact ⟨rfl, HB.out⟩

set_option maxHeartbeats 2000000 in
theorem ContainsFuncB (p : Int → Option Bool) (n : Nat) (lb : Array Value) (A : Option Addr) (c : Nat) (l : List Int) (j : Int) (w : World) (eg : ∀ args w, (callFunc n args).run Try.prog w = .ok (.enter n args) w)
    (hr : Kd.C (Kd.int .u8) w A l.length l) (hc : l.length ≤ c) (hF : PredIn (Value.int .u8) p n lb w) (h : idxP p 0 l = some j) :
    Calls Try.prog 88 #[.slice A l.length c, .func (.func n) #[] lb] w fun e w' => e = .returned (.bool (decide (0 ≤ j))) ∧ Below w.heap.size w w' := by
  have hlen := hr.2.1
  have hcall := Aside0.mk (fun W hb => IndexFuncB p n lb A c l j W eg (Kd.C_below hr hb) hc (hF.later hb) h)
  clear hr hF h
  go_enter Try.func88, Try.ntmps88
  go_wp2_with (go_at_call 110; (with_reducible refine (hcall.out _ (Below.refl _ _)).mono ?_); rintro e w' ⟨rfl, hb'⟩)
  go_ret
  exact ⟨rfl, hb'⟩

set_option maxHeartbeats 2000000 in
/-- The closure of areAll: not as told. -/
theorem areAllB1 (p : Int → Option Bool) (n : Nat) (lb : Array Value) (g T : Nat) (w0 : World) (eg : ∀ args w, (callFunc n args).run Try.prog w = .ok (.enter n args) w) (hF : PredIn (Value.int .u8) p n lb w0)
    (hg : w0.heap[g]? = some (.cells #[.func (.func n) #[] lb] T (0, 0))) : PredIn (Value.int .u8) (fun x => (p x).bind fun b => some (!b)) 89 #[.pointer (some ⟨g, 0, none⟩)] w0 := by
  intro x w hb0 r h
  have hx := blk_cell1 (blk_below hg hb0)
  obtain ⟨b, hb, h⟩ := Option.bind_eq_some_iff.mp h
  obtain rfl := Option.some.inj h
  have hcall := Aside0.mk (hF x w hb0 b hb)
  clear hF hb h hg hb0
  show Calls Try.prog 89 #[.int .u8 x, .pointer (some ⟨g, 0, none⟩)] w _
  go_enter Try.func89, Try.ntmps89
  go_wp2_with (go_at_fn n; (with_reducible refine hcall.out.mono ?_); rintro e w' ⟨rfl, hb'⟩)
  go_ret
  exact ⟨rfl, hb'⟩

def impl_areAll_byte.f (k : Nat) (p : Int → Option Bool) (l : List Int) : Option Bool := allP p l
theorem impl_areAll_byte.monoP {k : Nat} {p p' : Int → Option Bool} {l : List Int} (h : ∀ x, LeO (p x) (p' x)) : LeO (impl_areAll_byte.f k p l) (impl_areAll_byte.f (k + 1) p' l) := allP_mono h l

set_option maxHeartbeats 2000000 in
theorem impl_areAll_byte.calls (k : Nat) (A0 : Option Addr) (c0 : Nat) (l0 : List Int) (p : Int → Option Bool) (n : Nat) (lb : Array Value) (r : Bool) (w : World)
    (hr : Kd.C (Kd.int .u8) w A0 l0.length l0) (hc : l0.length ≤ c0) (hF0 : (∀ args w, (callFunc n args).run Try.prog w = .ok (.enter n args) w) ∧ PredIn (Value.int .u8) p n lb w) (h : impl_areAll_byte.f k p l0 = some r) :
    Calls Try.prog 80 #[.slice A0 l0.length c0, .func (.func n) #[] lb] w fun e w' => e = .returned (.bool r) ∧ Below w.heap.size w w' := by
  obtain ⟨eg, hF⟩ := hF0
  have hlen := hr.2.1
  obtain ⟨j, hj, hjr⟩ := idxP_of_allP p l0 0 r (by omega) h
  obtain rfl : (!decide (0 ≤ j)) = r := by rw [show decide (0 ≤ j) = decide (j ≥ 0) from rfl, hjr]; simp
  have e1 : ∀ args w, (callFunc 89 args).run Try.prog w = .ok (.enter 89 args) w := Go.Proofs.enters_of Try.func89 (by kernel_rfl) rfl
  have hcall := Aside0.mk (fun (W : World) (g T : Nat) (hb : Below w.heap.size w W) (hg : W.heap[g]? = some (.cells #[.func (.func n) #[] lb] T (0, 0))) =>
    ContainsFuncB _ 89 #[.pointer (some ⟨g, 0, none⟩)] A0 c0 l0 j W e1 (Kd.C_below hr hb) hc (areAllB1 p n lb g T W eg (hF.later hb) hg) hj)
  clear hr hF h hj hjr e1 eg
  go_enter Try.func80, Try.ntmps80
  go_wp2_with (go_at_call 88; (with_reducible refine (hcall.out _ w.heap.size _ (by exact below_alloc (Below.refl _ _) _) (by exact blk_new _ _)).mono ?_); rintro e w' ⟨rfl, hb'⟩)
  go_ret
  exact ⟨rfl, below_step (below_alloc (Below.refl _ _) _) hb'⟩

/-- The letters of words. -/
def isLet (c : Int) : Bool := decide (97 ≤ c) && decide (c < 102)

theorem IsWord1 (w0 : World) : PredIn (Value.int .u8) (fun c => some (isLet c)) 81 #[] w0 := by
  intro x w hb0 r h
  obtain rfl := Option.some.inj h
  clear h hb0
  show Calls Try.prog 81 #[.int .u8 x] w _
  unfold isLet
  by_cases h1 : 97 ≤ x
  · have h1b : decide (97 ≤ x) = true := decide_eq_true h1
    rw [h1b]
    go_enter Try.func81, Try.ntmps81
    go_wp2
    go_ret
    exact ⟨rfl, Below.refl _ _⟩
  · have h1b : decide (97 ≤ x) = false := decide_eq_false h1
    rw [h1b]
    go_enter Try.func81, Try.ntmps81
    go_wp2
    go_ret
    exact ⟨rfl, Below.refl _ _⟩

theorem allP_some {α : Type} (p : α → Bool) : ∀ l : List α, allP (fun x => some (p x)) l = some (l.all p)
  | [] => rfl
  | x :: l => by
    simp only [allP, Option.bind_some, allP_some p l, List.all_cons]
    cases p x <;> simp

/-- Is it a word? -/
def isW (a : ByteArray) : Bool := decide (a.size ≤ 60) && (bytesOf a).all isLet
def impl_IsWord.f (a0 : ByteArray) : Option Bool := some (isW a0)

set_option maxHeartbeats 2000000 in
theorem impl_IsWord.calls (a0 : ByteArray) (r : Bool) (w : World) (h : impl_IsWord.f a0 = some r) :
    Calls Try.prog 67 #[.string a0] w fun e w' => e = .returned (.bool r) ∧ Below w.heap.size w w' := by
  obtain rfl := Option.some.inj h
  clear h
  unfold isW
  by_cases h1 : a0.size ≤ 60
  · have h1b : decide (a0.size ≤ 60) = true := decide_eq_true h1
    have h1c : decide ((a0.size : Int) ≤ 60) = true := decide_eq_true (by omega)
    rw [h1b]
    have kb := fun W => print_bytes (P := Try.prog) 9 68 5 Try.underlying9 Try.underlying68 Try.underlying5 a0 W
    have e1 : ∀ args w, (callFunc 81 args).run Try.prog w = .ok (.enter 81 args) w := Go.Proofs.enters_of Try.func81 (by kernel_rfl) rfl
    have hcall : Aside0 (∀ (W : World) (c : Nat), a0.size ≤ c → Calls Try.prog 80 #[.slice (some ⟨W.heap.size, 0, none⟩) a0.size c, .func (.func 81) #[] #[]] (Lib.bytesWorld W 5 a0) fun e w' => e = .returned (.bool ((bytesOf a0).all isLet)) ∧ Below (Lib.bytesWorld W 5 a0).heap.size (Lib.bytesWorld W 5 a0) w') := by
      refine ⟨fun W c hc => ?_⟩
      have h := impl_areAll_byte.calls 0 (some ⟨W.heap.size, 0, none⟩) c (bytesOf a0) (fun c => some (isLet c)) 81 #[] _ (Lib.bytesWorld W 5 a0)
        (by rw [bytesOf_length]; exact Kd.C_of_reads (d := (0 : Int)) (h1 := fun _ => rfl) (bytes_reads W 5 a0 (by omega))) (by rw [bytesOf_length]; exact hc) ⟨e1, IsWord1 _⟩ (allP_some isLet (bytesOf a0))
      rw [bytesOf_length] at h
      exact h
    clear e1
    go_enter Try.func67, Try.ntmps67
    go_wp2_with (go_at_call 80; (with_reducible refine (hcall.out _ _ (grownCap_ge _ _ _ _)).mono ?_); rintro e w' ⟨rfl, hb'⟩)
    go_ret
    exact ⟨rfl, below_step (bytes_below (Below.refl _ _) (Nat.le_refl _) _ _) hb'⟩
  · have h1b : decide (a0.size ≤ 60) = false := decide_eq_false h1
    have h1c : decide ((a0.size : Int) ≤ 60) = false := decide_eq_false (by omega)
    rw [h1b]
    go_enter Try.func67, Try.ntmps67
    go_wp2
    go_ret
    exact ⟨rfl, Below.refl _ _⟩

/-- What is asked of a function value without arguments. -/
def ThunkIn (q : Option Bool) (n : Nat) (lb : Array Value) (w : World) : Prop :=
  ∀ (W : World), Below w.heap.size w W → ∀ r, q = some r → Calls Try.prog n lb W fun e W' => e = .returned (.bool r) ∧ Below W.heap.size W W'

def impl_wordCode.f (k : Nat) (q : Option Bool) (l : List ByteArray) : Option Int := if l.all isW = true then (q.bind fun b => if b = true then some 0 else some 2) else some 1
theorem impl_wordCode.monoP {k : Nat} {q q' : Option Bool} {l : List ByteArray} (h : LeO q q') : LeO (impl_wordCode.f k q l) (impl_wordCode.f (k + 1) q' l) := LeO.ite (LeO.bind h fun _ => LeO.refl _) (LeO.refl _)

theorem IsWord_in (w : World) : PredIn Value.string impl_IsWord.f 67 #[] w := fun x W _ r h => impl_IsWord.calls x r W h

set_option maxHeartbeats 2000000 in
theorem impl_wordCode.calls (k : Nat) (q : Option Bool) (n : Nat) (lb : Array Value) (A1 : Option Addr) (c1 : Nat) (l1 : List ByteArray) (r : Int) (w : World)
    (hr1 : Kd.C Kd.string w A1 l1.length l1) (hc1 : l1.length ≤ c1) (hF0 : (∀ args w, (callFunc n args).run Try.prog w = .ok (.enter n args) w) ∧ ThunkIn q n lb w) (h : impl_wordCode.f k q l1 = some r) :
    Calls Try.prog 44 #[.func (.func n) #[] lb, .slice A1 l1.length c1] w fun e w' => e = .returned (.int .i64 r) ∧ Below w.heap.size w w' := by
  obtain ⟨eg, hF⟩ := hF0
  have hlen := hr1.2.1
  have e1 : ∀ args w, (callFunc 67 args).run Try.prog w = .ok (.enter 67 args) w := Go.Proofs.enters_of Try.func67 (by kernel_rfl) rfl
  have hall : impl_areAll_string.f 0 impl_IsWord.f l1 = some (l1.all isW) := allP_some isW l1
  unfold impl_wordCode.f at h
  cases ha : l1.all isW with
  | false =>
    rw [ha] at h hall
    simp only [Bool.false_eq_true, if_false, Option.some.injEq] at h
    subst h
    have hcall := Aside0.mk (fun (W : World) (hb : Below w.heap.size w W) => impl_areAll_string.calls 0 A1 c1 l1 impl_IsWord.f 67 #[] false W (Kd.C_below hr1 hb) hc1 ⟨e1, IsWord_in W⟩ hall)
    clear hr1 hF ha e1 hall eg
    go_enter Try.func44, Try.ntmps44
    go_wp2_with (go_at_call 66; (with_reducible refine (hcall.out _ (Below.refl _ _)).mono ?_); rintro e w' ⟨rfl, hb'⟩)
    go_ret
    exact ⟨rfl, hb'⟩
  | true =>
    rw [ha] at h hall
    simp only [if_true] at h
    obtain ⟨b, hq, h⟩ := Option.bind_eq_some_iff.mp h
    have hcall := Aside0.mk (fun (W : World) (hb : Below w.heap.size w W) => impl_areAll_string.calls 0 A1 c1 l1 impl_IsWord.f 67 #[] true W (Kd.C_below hr1 hb) hc1 ⟨e1, IsWord_in W⟩ hall)
    have hcall2 := Aside0.mk (fun (W : World) (hb : Below w.heap.size w W) => hF W hb b hq)
    clear hr1 hF ha e1 hall hq
    cases b with
    | true =>
      simp only [if_true, Option.some.injEq] at h
      subst h
      go_enter Try.func44, Try.ntmps44
      go_wp2_with (first | (go_at_call 66; (with_reducible refine (hcall.out _ (Below.refl _ _)).mono ?_); rintro e w' ⟨rfl, hb'⟩) | (go_at_fn n; (with_reducible refine (hcall2.out _ (by assumption)).mono ?_); rintro e2 w2 ⟨rfl, hb2⟩))
      go_ret
      exact ⟨rfl, hb'.trans (hb2.mono hb'.size)⟩
    | false =>
      simp only [Bool.false_eq_true, if_false, Option.some.injEq] at h
      subst h
      go_enter Try.func44, Try.ntmps44
      go_wp2_with (first | (go_at_call 66; (with_reducible refine (hcall.out _ (Below.refl _ _)).mono ?_); rintro e w' ⟨rfl, hb'⟩) | (go_at_fn n; (with_reducible refine (hcall2.out _ (by assumption)).mono ?_); rintro e2 w2 ⟨rfl, hb2⟩))
      go_ret
      exact ⟨rfl, hb'.trans (hb2.mono hb'.size)⟩

end Go.Proofs.Ytippkbjdifmdnaa.PF
