/- Plain facts on how many factors differ in their letters' numbers: by the reference's loops and by the program's. -/
import Derived.Test.YtippkbjdifmdnaaPFLibSw
import Derived.Test.YtippkbjdifmdnaaPFLibW
import Derived.Test.YtippkbjdifmdnaaPFx9
import Derived.Test.YtippkbjdifmdnaaPFx11
namespace Go.Proofs.Ytippkbjdifmdnaa.PF
open Go.RowKit Go.Sort Go.Proofs.YtippkbjdifmdnaaW.PrintWords Go.Proofs.YtippkbjdifmdnaaW.PrintLast Go.Proofs.YtippkbjdifmdnaaW.PrintMore
set_option linter.unusedVariables false
set_option linter.unusedSimpArgs false

theorem lets_extract {w : ByteArray} (h : Lets (bytesOf w)) (i j : Nat) : Lets (bytesOf (w.extract i j)) := by
  intro x hx
  unfold bytesOf at hx
  rw [ByteArray.data_extract, Array.toList_extract, List.extract_eq_take_drop] at hx
  obtain ⟨b, hb, rfl⟩ := List.mem_map.1 hx
  exact h _ (List.mem_map.2 ⟨b, List.mem_of_mem_drop (List.mem_of_mem_take hb), rfl⟩)

/-- How many factors of a length there are up to order. -/
def abel (w : ByteArray) (m : Nat) : Nat := (canon ((fcs w m).map ordered)).length
def abelF (w : ByteArray) : Nat → Nat → List Int
  | 0, _ => []
  | d + 1, m => (abel w m : Int) :: abelF w d (m + 1)
theorem abelF_length (w : ByteArray) : ∀ d m, (abelF w d m).length = d
  | 0, _ => rfl
  | d + 1, m => by rw [abelF, List.length_cons, abelF_length w d]
theorem abel_fac (w : ByteArray) (m : Nat) : (canon ((fac w m).map ordered)).length = abel w m := by
  unfold abel
  rw [canon_eq (canon_SS ((fac w m).map ordered)) (l := (fcs w m).map ordered) (fun x => by
    rw [mem_canon, List.mem_map, List.mem_map]
    unfold fac
    simp only [mem_canon])]

/-! ### the reference -/
theorem sp1_ev (w : ByteArray) (hw : w.size ≤ 60) (hL : Lets (bytesOf w)) (m : Nat) (hm : m ≤ w.size) (out : List Int) (ho : out.length ≤ 1000) (r : List Int × Int) : ∀ (d i : Nat) (L : List ByteArray), i + d = plc w m → L.length = i →
    Ev (fun k => spec_AbelianComplexity.l0 k w (out ++ [((canon (L ++ (fcsFrom w m d i).map ordered)).length : Int)]) ((m + 1 : Nat) : Int)) r →
    Ev (fun k => spec_AbelianComplexity.l1 k w out (m : Int) (canon L) (i : Int)) r
  | 0, i, L, hd, hl, h => by
    unfold plc at hd
    have q1 : (i : Int) + (m : Int) = ((i + m : Nat) : Int) := by omega
    have q2 : i + m ≤ 4611686018427387904 := by omega
    have q3 : m < 4611686018427387904 := by omega
    have g2 : ¬ (((i + m : Nat) : Int) ≤ (w.size : Int)) := by omega
    have g3 : out.length < 17592186044416 := by omega
    refine ev_suc ?_
    unfold spec_AbelianComplexity.l1
    simp only [wrap_nat q1 q2, g2, g3, if_false, if_true, wrap_succ q3]
    simpa [fcsFrom] using h
  | d + 1, i, L, hd, hl, h => by
    have hd' := hd
    unfold plc at hd'
    have g2 : ((i + m : Nat) : Int) ≤ (w.size : Int) := by omega
    have g3 : 0 ≤ (i : Int) := Int.natCast_nonneg _
    have g4 : (i : Int) ≤ ((i + m : Nat) : Int) := by omega
    have q1 : i + m ≤ w.size := by omega
    have hsz : (w.extract i (i + m)).size ≤ 1000 := by rw [extract_size w (by omega) q1]; omega
    have hLu := lets_extract hL i (i + m)
    have p1 : (i : Int) + (m : Int) = ((i + m : Nat) : Int) := by omega
    have p2 : i + m ≤ 4611686018427387904 := by omega
    have p3 : i < 4611686018427387904 := by omega
    refine ev_suc ?_
    unfold spec_AbelianComplexity.l1
    simp only [wrap_nat p1 p2, wrap_succ p3, g2, g3, g4, if_true, Int.toNat_natCast]
    refine ev_bnd (count_ev _ hsz hLu) (ev_bnd (sorted_ev _ hsz hLu) (ev_bnd ⟨L.length + 1, fun k hk => put_ev L (ordered (w.extract i (i + m))) (by omega) k (by omega)⟩ ?_))
    refine sp1_ev w hw hL m hm out ho r d (i + 1) (L ++ [ordered (w.extract i (i + m))]) (by omega) (by simp [hl]) ?_
    simpa [fcsFrom] using h

theorem sp0_ev (w : ByteArray) (hw : w.size ≤ 60) (hL : Lets (bytesOf w)) : ∀ (d m : Nat) (out : List Int), m + d = w.size + 1 → out.length = m →
    Ev (fun k => spec_AbelianComplexity.l0 k w out (m : Int)) (out ++ abelF w d m, 0)
  | 0, m, out, hd, ho => by
    have g1 : ¬ ((m : Int) ≤ (w.size : Int)) := by omega
    refine ev_suc ?_
    unfold spec_AbelianComplexity.l0
    simp only [g1, if_false]
    simpa [abelF] using ev_of rfl
  | d + 1, m, out, hd, ho => by
    have g1 : (m : Int) ≤ (w.size : Int) := by omega
    refine ev_suc ?_
    unfold spec_AbelianComplexity.l0
    simp only [g1, if_true]
    have hp : plc w m ≤ 61 := by unfold plc; omega
    have h1 := sp1_ev w hw hL m (by omega) out (by omega) (out ++ abelF w (d + 1) m, 0) (plc w m) 0 [] (by omega) rfl ?_
    · rw [canon_nil] at h1
      exact h1
    · have h2 := sp0_ev w hw hL d (m + 1) (out ++ [(abel w m : Int)]) (by omega) (by simp [ho])
      rw [List.append_assoc, List.singleton_append] at h2
      exact h2

/-! ### the program -/
theorem im1_ev (w : ByteArray) (m : Nat) (hm : m ≤ 1000) (out : List Int) (ho : out.length ≤ 1000) (x18 : Int) (F : List ByteArray) (hF : ∀ u ∈ F, u.size ≤ 1000) (hn : F.length ≤ 100000) (r : List Int × Int) : ∀ (d j : Nat) (own : List ByteArray), j + d = F.length → own.length = j →
    Ev (fun k => impl_AbelianComplexity.l0 k w (out ++ [((canon (own ++ (F.drop j).map ordered)).length : Int)]) x18 ((m + 1 : Nat) : Int)) r →
    Ev (fun k => impl_AbelianComplexity.l1 k w out own x18 (m : Int) F (F.length : Int) (j : Int)) r
  | 0, j, own, hd, hl, h => by
    have g1 : ¬ ((j : Int) < (F.length : Int)) := by omega
    have g3 : out.length < 17592186044416 := by omega
    have q1 : m < 4611686018427387904 := by omega
    have q2 : own.length < 4611686018427387904 := by omega
    refine ev_suc ?_
    unfold impl_AbelianComplexity.l1
    rw [List.drop_eq_nil_of_le (by omega)] at h
    simp only [g1, if_false, sorted_f q2, Option.bind_some, g3, if_true, wrap_succ q1]
    simpa using h
  | d + 1, j, own, hd, hl, h => by
    have g1 : (j : Int) < (F.length : Int) := by omega
    have g2 : 0 ≤ (j : Int) := Int.natCast_nonneg _
    have hj : j < F.length := by omega
    have g3 : own.length < 8796093022208 := by omega
    have q1 : j < 4611686018427387904 := by omega
    refine ev_suc ?_
    unfold impl_AbelianComplexity.l1
    simp only [g1, g2, if_true, rdOf_get _ F j hj, sortedWord_f F[j] (hF _ (List.getElem_mem hj)), Option.bind_some, g3, wrap_succ q1]
    rw [List.drop_eq_getElem_cons hj, List.map_cons] at h
    refine im1_ev w m hm out ho x18 F hF hn r d (j + 1) (own ++ [ordered F[j]]) (by omega) (by simp [hl]) ?_
    rw [List.append_assoc, List.singleton_append]
    exact h

theorem im0_ev (w : ByteArray) (hw : w.size ≤ 60) : ∀ (d m : Nat) (out : List Int), m + d = w.size + 1 → out.length = m →
    Ev (fun k => impl_AbelianComplexity.l0 k w out ((w.size + 1 : Nat) : Int) (m : Int)) (out ++ abelF w d m, 0)
  | 0, m, out, hd, ho => by
    have g1 : ¬ ((m : Int) < ((w.size + 1 : Nat) : Int)) := by omega
    refine ev_suc ?_
    unfold impl_AbelianComplexity.l0
    simp only [g1, if_false]
    simpa [abelF] using ev_of rfl
  | d + 1, m, out, hd, ho => by
    have g1 : (m : Int) < ((w.size + 1 : Nat) : Int) := by omega
    have hl := fac_length_le w m
    refine ev_suc ?_
    unfold impl_AbelianComplexity.l0
    simp only [g1, if_true]
    refine ev_bnd (impl_factors_ev w m (by omega) (by omega)) ?_
    have h1 := im1_ev w m (by omega) out (by omega) ((w.size + 1 : Nat) : Int) (fac w m) (fun u hu => by
      obtain ⟨j, h2, rfl⟩ := (mem_fac w m u).1 hu
      rw [extract_size w (by omega) h2]; omega) (by omega) (out ++ abelF w (d + 1) m, 0) (fac w m).length 0 [] (by omega) rfl ?_
    · exact h1
    · have h2 := im0_ev w hw d (m + 1) (out ++ [(abel w m : Int)]) (by omega) (by simp [ho])
      rw [List.append_assoc, List.singleton_append] at h2
      rw [List.nil_append, List.drop_zero, abel_fac]
      exact h2

end Go.Proofs.Ytippkbjdifmdnaa.PF
