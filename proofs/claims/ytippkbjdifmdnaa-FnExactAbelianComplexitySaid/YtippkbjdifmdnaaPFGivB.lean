/- Contracts of functions that sort and rewrite a row of words in place: sorted, slices.DeleteFunc: what each returns, by the library's contracts and by walks of the program's text. -/
import Derived.Test.YtippkbjdifmdnaaPFGivA
import Derived.Test.YtippkbjdifmdnaaShelf
import Derived.Sort.OwnSorted
import Derived.Sort.Grow
import Derived.Lib.OwnBridge
namespace Go.Proofs.Ytippkbjdifmdnaa.PF
open Go.RowKit Go.Proofs.YtippkbjdifmdnaaW.PrintWords Go.Proofs.YtippkbjdifmdnaaW.PrintLast Go.Proofs.YtippkbjdifmdnaaW.PrintMore Go.Sort Go.Lib
set_option linter.unusedVariables false
set_option linter.unusedSimpArgs false
set_option linter.unnecessarySimpa false

/-- Words as lists of letters, in order, each once. -/
def sortedL (ss : List (List UInt8)) : List (List UInt8) := Lib.compact (ss.mergeSort fun x y => decide (x ≤ y))
def impl_sorted.f (l : List ByteArray) : Option (List ByteArray) := if l.length < 4611686018427387904 then some ((sortedL (l.map fun b => b.data.toList)).map fun x => ⟨x.toArray⟩) else none

theorem encs_strs (l : List ByteArray) : encs Value.string l = (l.map fun b => b.data.toList).map encStr := by
  simp [encs, encStr]
theorem encs_strs' (l : List (List UInt8)) : encs Value.string (l.map fun x => (⟨x.toArray⟩ : ByteArray)) = l.map encStr := by
  simp [encs, encStr]

set_option maxHeartbeats 2000000 in
theorem impl_sorted.calls (P0_ : Nat → Prop) (u9000_ : Value) (l0 : List ByteArray) (r : List ByteArray) (w0 w : World) (hB : Below w0.heap.size w0 w) (ho0 : Kd.R Kd.string 9 w w0.heap.size P0_ u9000_ l0) (h : impl_sorted.f l0 = some r) :
    Calls Try.prog 49 #[u9000_] w fun e w' => ∃ v0_ : Value, e = .returned (v0_) ∧ Kd.R Kd.string 9 w' w0.heap.size (fun k_ => (P0_ k_ ∨ w.heap.size ≤ k_)) v0_ r ∧ Below w0.heap.size w0 w' ∧ Kept w w' (fun k_ => P0_ k_) := by
  unfold impl_sorted.f at h
  split at h
  case isFalse => exact absurd h (by simp)
  rename_i hbig0
  obtain rfl := Option.some.inj h
  clear h
  have hok := ho0.1
  have hown := Kd.own_of_R ho0
  rw [encs_strs] at hown
  generalize hss : (l0.map fun b => b.data.toList) = ss at hown
  have hlen : ss.length = l0.length := by rw [← hss]; simp
  by_cases hv : u9000_ = .slice none 0 0
  · subst hv
    have hn : l0.length = 0 := by
      have := (Kd.R_reads' ho0).1; omega
    have hss0 : ss = [] := List.eq_nil_of_length_eq_zero (by omega)
    subst hss0
    have hr : ((sortedL []).map fun x => (⟨x.toArray⟩ : ByteArray)) = [] := by simp [sortedL, Lib.compact, Lib.compactUpTo]
    rw [hr]
    have hs1 := Aside0.mk (fun W => Try.slices_Sort_string_none none 0 W)
    have hs2 := Aside0.mk (fun W => Try.slices_Compact_string_empty none 0 W)
    clear hown hss hlen hn ho0 hok
    go_enter Try.func49, Try.ntmps49
    go_wp2_with (first | (go_at_call 69; (with_reducible refine (hs1.out _).mono ?_); rintro e w' ⟨rfl, rfl⟩) | (go_at_call 70; (with_reducible refine (hs2.out _).mono ?_); rintro e w' ⟨rfl, rfl⟩))
    go_ret
    exact ⟨_, rfl, Kd.R_nil _ _ _ _ _, hB, Kept.refl _ _⟩
  · obtain ⟨g, cap, rfl, hbg, hgl, hncap, hcm, hlen2, hH⟩ := Lib.holds_of_ownsRow hown hv
    rcases hown.2 with ⟨h0, _⟩ | ⟨g', cap', cur, hv', hbase, hb, h1, h2, h3, h4⟩
    · cases h0
    cases hv'
    have hmax : l0.length ≤ 9223372036854775807 := by unfold maxLen at hcm; omega
    have hbig : ss.length < 4611686018427387904 := by omega
    have hl2 : (ss.mergeSort fun x y => decide (x ≤ y)).length = ss.length := List.length_mergeSort ss
    have hs1 := Try.slices_Sort_string g 0 cap ss w hH hgl hbig
    rw [hlen] at hs1
    have X : Aside0 (g < w.heap.size ∧ l0.length ≤ cap ∧ Holds encStr w g 0 ss.toArray) := ⟨hgl, hncap, hH⟩
    generalize hso : (ss.mergeSort fun x y => decide (x ≤ y)) = so at hs1 hl2
    have hs2 : Aside0 (∀ n os, Calls Try.prog 70 #[.slice (some ⟨g, 0, none⟩) l0.length cap] (grow (putRow encStr (Sort.ahead w n) g 0 so.toArray) os) fun e w' => e = .returned (.slice (some ⟨g, 0, none⟩) (Lib.compact so).length cap) ∧ ∃ q, w' = putRow encStr (Sort.ahead (grow (putRow encStr (Sort.ahead w n) g 0 so.toArray) os) q) g 0 (Lib.compact so ++ List.replicate (so.length - (Lib.compact so).length) default).toArray) := by
      refine ⟨fun n os => ?_⟩
      have hH2 : Holds encStr (grow (putRow encStr (Sort.ahead w n) g 0 so.toArray) os) g 0 so.toArray :=
        holds_grow encStr _ os g 0 _ (by simpa [putRow, mapBlock, Sort.ahead] using X.out.1) (holds_putRow encStr _ g 0 _ _ (holds_ahead encStr w n g 0 _ X.out.2.2) (by simp [hl2]))
      have h := Try.slices_Compact_string g 0 cap so _ hH2 (by omega) (by omega)
      rw [hl2, hlen] at h
      rw [hl2, hlen]
      exact h
    have hfin : Aside0 (∀ n os q, (Kd.R Kd.string 9 (putRow encStr (Sort.ahead (grow (putRow encStr (Sort.ahead w n) g 0 so.toArray) os) q) g 0 (Lib.compact so ++ List.replicate (so.length - (Lib.compact so).length) default).toArray) w0.heap.size (fun k_ => (P0_ k_ ∨ w.heap.size ≤ k_)) (.slice (some ⟨g, 0, none⟩) (Lib.compact so).length cap) ((sortedL ss).map fun x => (⟨x.toArray⟩ : ByteArray))) ∧
        Below w0.heap.size w0 (putRow encStr (Sort.ahead (grow (putRow encStr (Sort.ahead w n) g 0 so.toArray) os) q) g 0 (Lib.compact so ++ List.replicate (so.length - (Lib.compact so).length) default).toArray) ∧
        Kept w (putRow encStr (Sort.ahead (grow (putRow encStr (Sort.ahead w n) g 0 so.toArray) os) q) g 0 (Lib.compact so ++ List.replicate (so.length - (Lib.compact so).length) default).toArray) (fun k_ => P0_ k_)) := by
      refine ⟨fun n os q => ?_⟩
      have hle := Lib.compact_length_le so
      have hs := ownsRow_sorted (n := n) (os := os) (ts := so) hl2 hbase hb (by omega) h2 h3
      rw [hlen] at hs
      have hc := Lib.ownsRow_putRow (q := q) (k := (Lib.compact so).length) (ys := Lib.compact so ++ List.replicate (so.length - (Lib.compact so).length) default) hs (by simp; omega) (by omega)
      rw [List.take_left] at hc
      have hgr : w.grownBy (grow (putRow encStr (Sort.ahead w n) g 0 so.toArray) os) (some g) := grownBy_sorted _
      have hB2 := Lib.below_putRow (enc := encStr) (q := q) (g := g) (d := (Lib.compact so ++ List.replicate (so.length - (Lib.compact so).length) default).toArray) (hB.grown hgr hB.size (fun j hj => by cases hj; exact hbase)) hbase
      refine ⟨?_, hB2, ?_⟩
      · have hls : sortedL ss = Lib.compact so := by rw [← hso]; rfl
        rw [hls]
        refine Kd.R_of_own ?_ (fun k hk => .inl (hok k hk))
        rw [encs_strs', List.length_map]
        exact hc
      · refine Kept.of_grown (row := some g) ?_ (Kept.refl _ _) (fun k hk => .inl (hok k (by rw [← hk]; rfl)))
        refine ⟨hgr.os, hgr.tape, hgr.output, ?_, fun k hk hne => ?_⟩
        · have := hgr.size; simp only [putRow, mapBlock, Sort.ahead] at this ⊢; simpa using this
        · rw [← hgr.block k hk hne]
          have : g ≠ k := fun e => hne (by rw [e])
          simp [putRow, mapBlock, Sort.ahead, Array.getElem?_modify, this]
    clear hown hss hlen ho0 hok hH hgl hncap hcm hbig hl2 X hso hb h1 h2 h3 h4 hbase hbg hlen2 hmax hbig0
    have Hs1 := Aside0.mk hs1
    clear hs1
    go_enter Try.func49, Try.ntmps49
    go_wp2_with (first | (go_at_call 69; (with_reducible refine (Hs1.out).mono ?_); rintro e w' ⟨rfl, n, os, rfl⟩) | (go_at_call 70; (with_reducible refine (hs2.out _ _).mono ?_); rintro e w' ⟨rfl, q, rfl⟩))
    go_ret
    exact ⟨_, rfl, (hfin.out n os q).1, (hfin.out n os q).2.1, (hfin.out n os q).2.2⟩

end Go.Proofs.Ytippkbjdifmdnaa.PF
