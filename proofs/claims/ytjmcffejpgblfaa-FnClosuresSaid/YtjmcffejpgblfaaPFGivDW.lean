/- Given for the print: the directed word of letters: the letters into a row, and closed letter by letter. -/
import Derived.Test.YtjmcffejpgblfaaPFGivA
import Derived.Test.YtjmcffejpgblfaaPFGivR
import Derived.Test.YtjmcffejpgblfaaPFx6
import Derived.Test.YtjmcffejpgblfaaPFx2
namespace Go.Proofs.Ytjmcffejpgblfaa.PF
open Go.RowKit Go.Lib Go.Sort Go.Proofs.YtjmcffejpgblfaaW.PrintWords Go.Proofs.YtjmcffejpgblfaaW.PrintLast Go.Proofs.YtjmcffejpgblfaaW.PrintMore
set_option linter.unusedVariables false
set_option linter.unusedSimpArgs false

def impl_DirectedWord.l0 : Nat → ByteArray → ByteArray → Nat → Option (ByteArray × Int)
  | 0, _, _, _ => none
  | k + 1, a, out, i => if i < a.size then (impl_closure.f k (out ++ a.extract i (i + 1))).bind fun v => (if (v.size : Int) > 60 then (some (⟨#[]⟩, 3)) else (impl_DirectedWord.l0 k a v (i + 1))) else (some (out, 0))
def impl_DirectedWord.f (k : Nat) (a : ByteArray) : Option (ByteArray × Int) := (impl_wordCode.f k impl_always.f [a]).bind fun t => (if t = 0 then (impl_DirectedWord.l0 k a ⟨#[]⟩ 0) else (some (⟨#[]⟩, t)))
theorem impl_DirectedWord.mono_l : ∀ k, ∀ a o i, LeO (impl_DirectedWord.l0 k a o i) (impl_DirectedWord.l0 (k + 1) a o i)
  | 0 => fun a o i r h => by simp [impl_DirectedWord.l0] at h
  | k + 1 => fun a o i => by
    have ih := impl_DirectedWord.mono_l k
    unfold impl_DirectedWord.l0
    repeat' first
    | exact ih _ _ _
    | exact impl_closure.mono _ _
    | exact LeO.refl _
    | refine LeO.ite ?_ ?_
    | refine LeO.bind ?_ (fun _ => ?_)
theorem impl_DirectedWord.mono : ∀ a k, LeO (impl_DirectedWord.f k a) (impl_DirectedWord.f (k + 1) a) := by
  intro a k
  unfold impl_DirectedWord.f
  refine LeO.bind (impl_wordCode.monoP ?_) (fun _ => ?_)
  · exact LeO.refl _
  · refine LeO.ite ?_ ?_
    · exact impl_DirectedWord.mono_l _ _ _ _
    · exact LeO.refl _

theorem one_letter (a : ByteArray) (i : Nat) (h : i < a.size) : strOfNums [rd (bytesOf a) (i : Int)] = a.extract i (i + 1) := by
  have hl : i < (bytesOf a).length := by rw [bytesOf_length]; exact h
  have hd : i < a.data.toList.length := by rw [data_length]; exact h
  have e : rd (bytesOf a) (i : Int) = ((a.data.toList[i].toNat : Nat) : Int) := by
    simp only [rd, Int.toNat_natCast, List.getD_eq_getElem?_getD, List.getElem?_eq_getElem hl, Option.getD_some]
    simp [bytesOf]
  rw [e]
  refine ByteArray.ext ?_
  refine Array.toList_inj.1 ?_
  simp only [strOfNums, ByteArray.data_extract, Array.toList_extract, List.extract_eq_take_drop, List.map_cons, List.map_nil]
  rw [show i + 1 - i = 1 by omega, List.drop_eq_getElem_cons hd]
  simp
theorem bytes_C (W : World) (a : ByteArray) (h : a.size ≤ 9000000000000000000) : Kd.C (Kd.int .u8) (Lib.bytesWorld W 5 a) (some ⟨W.heap.size, 0, none⟩) a.size (bytesOf a) := by
  refine Kd.C_of_reads (d := (0 : Int)) (h1 := fun _ => rfl) ?_
  refine ⟨bytesOf_length a, by omega, fun _ => ⟨_, rfl, fun j hj => ?_⟩⟩
  have hj' : j < (bytesOf a).toArray.size := by simp [bytesOf_length]; exact hj
  have h := (bytes_holds W 5 a j hj').1
  rw [Nat.zero_add, getElem!_pos _ j hj'] at h
  rw [add_plain, h]
  have hr : j < (bytesOf a).length := by rw [bytesOf_length]; exact hj
  simp [encB]
  rw [List.getElem?_eq_getElem hr, Option.getD_some]

set_option maxHeartbeats 8000000 in
set_option maxRecDepth 100000 in
theorem impl_DirectedWord.calls (k : Nat) (a0 : ByteArray) (r1 : ByteArray) (r2 : Int) (w : World) (h : impl_DirectedWord.f k a0 = some (r1, r2)) :
    Calls Try.prog 12 #[.string a0] w fun e w' => e = .returned (.tuple #[.string r1, .int .i64 r2]) ∧ Below w.heap.size w w' := by
  have HB := Aside0.mk (Below.refl w.heap.size w)
  have H : ((impl_wordCode.f k (impl_always.f) (([a0] : List ByteArray))).bind fun t => (if t = 0 then (impl_DirectedWord.l0 k a0 ⟨#[]⟩ 0) else (some (⟨#[]⟩, t)))) = some (r1, r2) := h
  clear h
  obtain ⟨y354, hy354⟩ : ∃ y_ : List ByteArray, y_ = (([a0] : List ByteArray)) := ⟨_, rfl⟩
  rw [← hy354] at H
  have Ny354 := Aside0.mk hy354
  clear hy354
  replace H := qN H
  obtain ⟨t357, A2, H⟩ := H
  try dsimp only at H
  by_cases c3 : t357 = 0
  rotate_left
  · rw [if_neg c3] at H
    obtain ⟨c3b0, c3b1⟩ := zF c3
    simp only [Option.some.injEq, Prod.mk.injEq] at H
    obtain ⟨rfl, rfl⟩ := H
    go_enter Try.func12, Try.ntmps12
    go_wp2_with (first | ((with_reducible refine gate_dst (N := 9) rfl ?_); refine Kd.R_lit Kd.string _ 9 ?hg (N := 9) ?hd (xs := ([a0] : List ByteArray)) (inner := [.string a0]) (ok := fun _ => True) (okp := fun _ => True) ?hr ?hp (fun _ hk => hk) trivial (Below.refl _ _) (Nat.le_refl _) (by simp) ?_; (case hd => rfl); (case hg => rfl); (case hr => first | (go_simp; done) | (go_simp; rfl)); (case hp => exact (Reps.one (show Kd.M Kd.string _ _ _ a0 [.string a0] from rfl) (Reps.none _ _))); intro v355 w16 ho17 hb hg_ hnew_; clear hg_ hnew_; (first | rw [← Ny354.out] at ho17 | (simp only [Int.reduceToNat] at ho17; rw [← Ny354.out] at ho17)); have HO356 := Aside0.mk (Kd.R_lower ho17 (below_size (qB HB.out))); replace HB := Aside0.mk (below_step (qB HB.out) hb); clear hb ho17; obtain ⟨Ao18, co18, eo18⟩ := Kd.R_slice HO356.out; subst eo18) | ((with_reducible refine gate_callee (f := 27) rfl ?_); refine goesL_ (some 10) rfl rfl Try.func27 (by kernel_rfl) rfl #[.func (.func 28) #[] #[], .slice Ao18 y354.length co18] rfl qV ?_; (with_reducible refine (impl_wordCode.calls k (impl_always.f) 28 #[] _ _ y354 t357 _ ?side1 ?side2 ?side3 A2.out).mono ?_); (case side1 => exact qC (Kd.R_reads' HO356.out).2.2); (case side2 => exact (Kd.R_reads' HO356.out).2.1); (case side3 => exact ⟨Go.Proofs.enters_of Try.func28 (by kernel_rfl) rfl, fun W_ hW_ r_ h_ => (impl_always.calls  r_ W_  h_).mono (fun e_ W2_ h2_ => ⟨h2_.1, by first | exact h2_.2 | exact h2_.2.below⟩)⟩); rintro e w19 ⟨rfl, hb⟩; refine ⟨_, rfl, ?_⟩; replace HO356 := Aside0.mk (Kd.R_below (qR HO356.out) hb); replace HB := Aside0.mk (below_step (qB HB.out) hb)))
    go_ret2
    exact ⟨qE, qB HB.out⟩
  have hsz : Aside0 (a0.size ≤ 9000000000000000000) := ⟨by
    have h := A2.out
    rw [Ny354.out, c3] at h
    unfold impl_wordCode.f at h
    by_cases g : [a0].all isW = true
    · simp only [List.all_cons, List.all_nil, Bool.and_true, isW, Bool.and_eq_true, decide_eq_true_eq] at g
      omega
    · rw [if_neg g] at h
      exact absurd (Option.some.inj h) (by decide)⟩
  rw [if_pos c3] at H
  obtain ⟨c3b0, c3b1⟩ := zT c3
  clear c3
  have H' := Aside0.mk H
  clear H
  go_enter Try.func12, Try.ntmps12
  go_wp2_with (first | ((with_reducible refine gate_dst (N := 9) rfl ?_); refine Kd.R_lit Kd.string _ 9 ?hg (N := 9) ?hd (xs := ([a0] : List ByteArray)) (inner := [.string a0]) (ok := fun _ => True) (okp := fun _ => True) ?hr ?hp (fun _ hk => hk) trivial (Below.refl _ _) (Nat.le_refl _) (by simp) ?_; (case hd => rfl); (case hg => rfl); (case hr => first | (go_simp; done) | (go_simp; rfl)); (case hp => exact (Reps.one (show Kd.M Kd.string _ _ _ a0 [.string a0] from rfl) (Reps.none _ _))); intro v355 w6 ho7 hb hg_ hnew_; clear hg_ hnew_; (first | rw [← Ny354.out] at ho7 | (simp only [Int.reduceToNat] at ho7; rw [← Ny354.out] at ho7)); have HO356 := Aside0.mk (Kd.R_lower ho7 (below_size (qB HB.out))); replace HB := Aside0.mk (below_step (qB HB.out) hb); clear hb ho7; obtain ⟨Ao8, co8, eo8⟩ := Kd.R_slice HO356.out; subst eo8) | ((with_reducible refine gate_callee (f := 27) rfl ?_); refine goesL_ (some 10) rfl rfl Try.func27 (by kernel_rfl) rfl #[.func (.func 28) #[] #[], .slice Ao8 y354.length co8] rfl qV ?_; (with_reducible refine (impl_wordCode.calls k (impl_always.f) 28 #[] _ _ y354 t357 _ ?side1 ?side2 ?side3 A2.out).mono ?_); (case side1 => exact qC (Kd.R_reads' HO356.out).2.2); (case side2 => exact (Kd.R_reads' HO356.out).2.1); (case side3 => exact ⟨Go.Proofs.enters_of Try.func28 (by kernel_rfl) rfl, fun W_ hW_ r_ h_ => (impl_always.calls  r_ W_  h_).mono (fun e_ W2_ h2_ => ⟨h2_.1, by first | exact h2_.2 | exact h2_.2.below⟩)⟩); rintro e w9 ⟨rfl, hb⟩; refine ⟨_, rfl, ?_⟩; replace HB := Aside0.mk (below_step (qB HB.out) hb); clear HO356; have hconv := Lib.run_convert_string_bytes (P := Try.prog) w9 9 22 5 a0 Try.underlying9 Try.underlying22 Try.underlying5))
  have HC := Aside0.mk (bytes_C w9 a0 hsz.out)
  have hbw : Below w9.heap.size w9 (Lib.bytesWorld w9 5 a0) := ⟨rfl, rfl, rfl, by rw [Lib.bytesWorld_size]; omega, fun k hk => Lib.bytesWorld_at_old w9 5 a0 k hk⟩
  replace HB := Aside0.mk (below_step HB.out hbw)
  clear hbw hconv hb
  generalize Lib.bytesWorld w9 5 a0 = wq at HC HB ⊢
  generalize w9.heap.size = B at HC ⊢
  go_loopg [5, 17] k (fun kq v5 v17 w' => ∃ (x5 : ByteArray) (i : Nat), v5 = .string x5 ∧ v17 = .int .i64 (i : Int) ∧ Aside0 (impl_DirectedWord.l0 kq a0 x5 i = some (r1, r2)) ∧ Aside0 (kq ≤ k) ∧ Aside0 (x5.size ≤ 60) ∧ Aside0 (i ≤ a0.size) ∧ Aside0 (Kd.C (Kd.int .u8) w' (some ⟨B, 0, none⟩) a0.size (bytesOf a0)) ∧ Aside0 (Below w.heap.size w w'))
  case atStart => exact ⟨⟨#[]⟩, 0, rfl, rfl, H', ⟨Nat.le_refl _⟩, ⟨by show 0 ≤ 60; omega⟩, ⟨Nat.zero_le _⟩, HC, HB⟩
  case round =>
    clear H'
    obtain ⟨x5, i, rfl, rfl, HA, HK1, HZ, HI, HC, HB⟩ := hrel
    cases gk with
    | zero => exact absurd HA.out (by simp [impl_DirectedWord.l0])
    | succ k1 =>
      have H := HA.out
      clear HA
      simp only [impl_DirectedWord.l0] at H
      by_cases c4 : i < a0.size
      · rw [if_pos c4] at H
        replace H := qN H
        obtain ⟨v, A9, H⟩ := H
        try dsimp only at H
        have c4b0 : decide ((i : Int) < (a0.size : Int)) = true := decide_eq_true (by omega)
        obtain ⟨ad, eq, hx⟩ := Kd.at_int HC.out (i : Int) (by omega) (by omega)
        cases eq
        rw [Int.toNat_natCast, add_plain] at hx
        try simp only [Nat.zero_add] at hx
        obtain ⟨y130, hy130⟩ : ∃ y_ : List Int, y_ = ([rd (bytesOf a0) (i : Int)] : List Int) := ⟨_, rfl⟩
        have hy1 : strOfNums y130 = a0.extract i (i + 1) := by rw [hy130, one_letter a0 i c4]
        have Ny130 := Aside0.mk hy130
        clear hy130
        have hz1 : (strOfNums y130).size = 1 := by rw [hy1, ByteArray.size_extract]; omega
        have c8b2 : (9223372036854775807 < x5.size + (strOfNums y130).size) = False := eq_false (by have := HZ.out; omega)
        replace A9 : Aside0 (impl_closure.f k1 (x5 ++ strOfNums y130) = some v) := ⟨by rw [hy1]; exact A9.out⟩
        clear hy1 hz1
        by_cases c10 : (v.size : Int) > 60
        · rw [if_pos c10] at H
          have c10b0 : decide (60 < (v.size : Int)) = true := decide_eq_true c10
          have c10b1 : decide (60 < v.size) = true := decide_eq_true (by omega)
          clear c10
          simp only [Option.some.injEq, Prod.mk.injEq] at H
          obtain ⟨rfl, rfl⟩ := H
          go_wp2_with (first | ((with_reducible refine gate_dst (N := 23) rfl ?_); refine Kd.R_lit (Kd.int .u8) _ 5 ?hg (N := 23) ?hd (xs := ([rd (bytesOf a0) (i : Int)] : List Int)) (inner := [.int .u8 (rd (bytesOf a0) (i : Int))]) (ok := fun _ => True) (okp := fun _ => True) ?hr ?hp (fun _ hk => hk) trivial (Below.refl _ _) (Nat.le_refl _) (by simp) ?_; (case hd => rfl); (case hg => rfl); (case hr => first | (go_simp; done) | (go_simp; rfl)); (case hp => exact (Reps.one (show Kd.M (Kd.int .u8) _ _ _ (rd (bytesOf a0) (i : Int)) [.int .u8 (rd (bytesOf a0) (i : Int))] from rfl) (Reps.none _ _))); intro v131 w2 ho3 hb hg_ hnew_; clear hg_ hnew_; (first | rw [← Ny130.out] at ho3 | (simp only [Int.reduceToNat] at ho3; rw [← Ny130.out] at ho3)); have HO132 := Aside0.mk (Kd.R_lower ho3 (below_size (qB HB.out))); replace HC := Aside0.mk (Kd.C_below HC.out hb); replace HB := Aside0.mk (below_step (qB HB.out) hb); clear hb ho3; have hcv4 := own_string (P := Try.prog) Try.underlying22 Try.underlying5 Try.underlying9 (Kd.own_of_R HO132.out)) | ((with_reducible refine gate_callee (f := 32) rfl ?_); refine goesL_ (some 26) rfl rfl Try.func32 (by kernel_rfl) rfl #[.string (x5 ++ strOfNums y130)] rfl qV ?_; (with_reducible refine (impl_closure.calls k1 (x5 ++ strOfNums y130) v _ A9.out).mono ?_); rintro e w10 ⟨rfl, hb⟩; refine ⟨_, rfl, ?_⟩; replace HC := Aside0.mk (Kd.C_below HC.out hb); replace HB := Aside0.mk (below_step (qB HB.out) hb)))
          go_ret2
          exact ⟨qE, qB HB.out⟩
        · rw [if_neg c10] at H
          have c10b0 : decide (60 < (v.size : Int)) = false := decide_eq_false c10
          have c10b1 : decide (60 < v.size) = false := decide_eq_false (by omega)
          have c10n : v.size ≤ 60 := by omega
          clear c10
          have H' := Aside0.mk H
          clear H
          have HV := Aside0.mk c10n
          clear c10n
          go_wp2_with (first | ((with_reducible refine gate_dst (N := 23) rfl ?_); refine Kd.R_lit (Kd.int .u8) _ 5 ?hg (N := 23) ?hd (xs := ([rd (bytesOf a0) (i : Int)] : List Int)) (inner := [.int .u8 (rd (bytesOf a0) (i : Int))]) (ok := fun _ => True) (okp := fun _ => True) ?hr ?hp (fun _ hk => hk) trivial (Below.refl _ _) (Nat.le_refl _) (by simp) ?_; (case hd => rfl); (case hg => rfl); (case hr => first | (go_simp; done) | (go_simp; rfl)); (case hp => exact (Reps.one (show Kd.M (Kd.int .u8) _ _ _ (rd (bytesOf a0) (i : Int)) [.int .u8 (rd (bytesOf a0) (i : Int))] from rfl) (Reps.none _ _))); intro v131 w2 ho3 hb hg_ hnew_; clear hg_ hnew_; (first | rw [← Ny130.out] at ho3 | (simp only [Int.reduceToNat] at ho3; rw [← Ny130.out] at ho3)); have HO132 := Aside0.mk (Kd.R_lower ho3 (below_size (qB HB.out))); replace HC := Aside0.mk (Kd.C_below HC.out hb); replace HB := Aside0.mk (below_step (qB HB.out) hb); clear hb ho3; have hcv4 := own_string (P := Try.prog) Try.underlying22 Try.underlying5 Try.underlying9 (Kd.own_of_R HO132.out)) | ((with_reducible refine gate_callee (f := 32) rfl ?_); refine goesL_ (some 26) rfl rfl Try.func32 (by kernel_rfl) rfl #[.string (x5 ++ strOfNums y130)] rfl qV ?_; (with_reducible refine (impl_closure.calls k1 (x5 ++ strOfNums y130) v _ A9.out).mono ?_); rintro e w10 ⟨rfl, hb⟩; refine ⟨_, rfl, ?_⟩; replace HC := Aside0.mk (Kd.C_below HC.out hb); replace HB := Aside0.mk (below_step (qB HB.out) hb)))
          go_roundg k1
          case measure => have := HK1.out; omega
          case rel => exact ⟨v, i + 1, rfl, (congrArg (Value.int .i64) (by have := hsz.out; unfold wrap64; omega)), H', ⟨by have := HK1.out; omega⟩, HV, ⟨by omega⟩, HC, ⟨qB HB.out⟩⟩
      · rw [if_neg c4] at H
        have c4b0 : decide ((i : Int) < (a0.size : Int)) = false := decide_eq_false (by omega)
        simp only [Option.some.injEq, Prod.mk.injEq] at H
        obtain ⟨rfl, rfl⟩ := H
        go_wp2
        go_ret2
        exact ⟨qE, qB HB.out⟩

end Go.Proofs.Ytjmcffejpgblfaa.PF
