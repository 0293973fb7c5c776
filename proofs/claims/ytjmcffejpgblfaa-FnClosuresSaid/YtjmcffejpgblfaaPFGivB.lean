/- Contracts of functions that sort and rewrite a row of words in place: sorted, slices.DeleteFunc: what each returns, by the library's contracts and by walks of the program's text. -/
import Derived.Test.YtjmcffejpgblfaaPFGivA
import Derived.Test.YtjmcffejpgblfaaShelf
import Derived.Sort.OwnSorted
import Derived.Sort.Grow
import Derived.Lib.OwnBridge
namespace Go.Proofs.Ytjmcffejpgblfaa.PF
open Go.RowKit Go.Proofs.YtjmcffejpgblfaaW.PrintWords Go.Proofs.YtjmcffejpgblfaaW.PrintLast Go.Proofs.YtjmcffejpgblfaaW.PrintMore Go.Sort Go.Lib
set_option linter.unusedVariables false
set_option linter.unusedSimpArgs false
set_option linter.unnecessarySimpa false

/-- Words as lists of letters, in order, each once. -/
def sortedL (ss : List (List UInt8)) : List (List UInt8) := Lib.compact (ss.mergeSort fun x y => decide (x ≤ y))
def impl_sorted.f (l : List ByteArray) : Option (List ByteArray) := if l.length < 4611686018427387904 then some ((sortedL (l.map fun b => b.data.toList)).map fun x => ⟨x.toArray⟩) else none

theorem encs_strs (l : List ByteArray) : encs Value.string l = (l.map fun b => b.data.toList).map encStr := by
  simp [encs, encStr]
theorem encs_strs' (l : List (List UInt8)) : encs Value.string (l.map fun x => (⟨x.toArray⟩ : ByteArray)) = l.map encStr := by
  simp [encs, encStr]

set_option maxHeartbeats 2000000 in
theorem impl_sorted.calls (P0_ : Nat → Prop) (u9000_ : Value) (l0 : List ByteArray) (r : List ByteArray) (w0 w : World) (hB : Below w0.heap.size w0 w) (ho0 : Kd.R Kd.string 9 w w0.heap.size P0_ u9000_ l0) (h : impl_sorted.f l0 = some r) :
    Calls Try.prog 57 #[u9000_] w fun e w' => ∃ v0_ : Value, e = .returned (v0_) ∧ Kd.R Kd.string 9 w' w0.heap.size (fun k_ => (P0_ k_ ∨ w.heap.size ≤ k_)) v0_ r ∧ Below w0.heap.size w0 w' ∧ Kept w w' (fun k_ => P0_ k_) := by
  unfold impl_sorted.f at h
  split at h
  case isFalse => exact absurd h (by simp)
  rename_i hbig0
  obtain rfl := Option.some.inj h
  clear h
  have hok := ho0.1
  have hown := Kd.own_of_R ho0
  rw [encs_strs] at hown
  generalize hss : (l0.map fun b => b.data.toList) = ss at hown
  have hlen : ss.length = l0.length := by rw [← hss]; simp
  by_cases hv : u9000_ = .slice none 0 0
  · subst hv
    have hn : l0.length = 0 := by
      have := (Kd.R_reads' ho0).1; omega
    have hss0 : ss = [] := List.eq_nil_of_length_eq_zero (by omega)
    subst hss0
    have hr : ((sortedL []).map fun x => (⟨x.toArray⟩ : ByteArray)) = [] := by simp [sortedL, Lib.compact, Lib.compactUpTo]
    rw [hr]
    have hs1 := Aside0.mk (fun W => Try.slices_Sort_string_none none 0 W)
    have hs2 := Aside0.mk (fun W => Try.slices_Compact_string_empty none 0 W)
    clear hown hss hlen hn ho0 hok
    go_enter Try.func57, Try.ntmps57
    go_wp2_with (first | (go_at_call 67; (with_reducible refine (hs1.out _).mono ?_); rintro e w' ⟨rfl, rfl⟩) | (go_at_call 68; (with_reducible refine (hs2.out _).mono ?_); rintro e w' ⟨rfl, rfl⟩))
    go_ret
    exact ⟨_, rfl, Kd.R_nil _ _ _ _ _, hB, Kept.refl _ _⟩
  · obtain ⟨g, cap, rfl, hbg, hgl, hncap, hcm, hlen2, hH⟩ := Lib.holds_of_ownsRow hown hv
    rcases hown.2 with ⟨h0, _⟩ | ⟨g', cap', cur, hv', hbase, hb, h1, h2, h3, h4⟩
    · cases h0
    cases hv'
    have hmax : l0.length ≤ 9223372036854775807 := by unfold maxLen at hcm; omega
    have hbig : ss.length < 4611686018427387904 := by omega
    have hl2 : (ss.mergeSort fun x y => decide (x ≤ y)).length = ss.length := List.length_mergeSort ss
    have hs1 := Try.slices_Sort_string g 0 cap ss w hH hgl hbig
    rw [hlen] at hs1
    have X : Aside0 (g < w.heap.size ∧ l0.length ≤ cap ∧ Holds encStr w g 0 ss.toArray) := ⟨hgl, hncap, hH⟩
    generalize hso : (ss.mergeSort fun x y => decide (x ≤ y)) = so at hs1 hl2
    have hs2 : Aside0 (∀ n os, Calls Try.prog 68 #[.slice (some ⟨g, 0, none⟩) l0.length cap] (grow (putRow encStr (Sort.ahead w n) g 0 so.toArray) os) fun e w' => e = .returned (.slice (some ⟨g, 0, none⟩) (Lib.compact so).length cap) ∧ ∃ q, w' = putRow encStr (Sort.ahead (grow (putRow encStr (Sort.ahead w n) g 0 so.toArray) os) q) g 0 (Lib.compact so ++ List.replicate (so.length - (Lib.compact so).length) default).toArray) := by
      refine ⟨fun n os => ?_⟩
      have hH2 : Holds encStr (grow (putRow encStr (Sort.ahead w n) g 0 so.toArray) os) g 0 so.toArray :=
        holds_grow encStr _ os g 0 _ (by simpa [putRow, mapBlock, Sort.ahead] using X.out.1) (holds_putRow encStr _ g 0 _ _ (holds_ahead encStr w n g 0 _ X.out.2.2) (by simp [hl2]))
      have h := Try.slices_Compact_string g 0 cap so _ hH2 (by omega) (by omega)
      rw [hl2, hlen] at h
      rw [hl2, hlen]
      exact h
    have hfin : Aside0 (∀ n os q, (Kd.R Kd.string 9 (putRow encStr (Sort.ahead (grow (putRow encStr (Sort.ahead w n) g 0 so.toArray) os) q) g 0 (Lib.compact so ++ List.replicate (so.length - (Lib.compact so).length) default).toArray) w0.heap.size (fun k_ => (P0_ k_ ∨ w.heap.size ≤ k_)) (.slice (some ⟨g, 0, none⟩) (Lib.compact so).length cap) ((sortedL ss).map fun x => (⟨x.toArray⟩ : ByteArray))) ∧
        Below w0.heap.size w0 (putRow encStr (Sort.ahead (grow (putRow encStr (Sort.ahead w n) g 0 so.toArray) os) q) g 0 (Lib.compact so ++ List.replicate (so.length - (Lib.compact so).length) default).toArray) ∧
        Kept w (putRow encStr (Sort.ahead (grow (putRow encStr (Sort.ahead w n) g 0 so.toArray) os) q) g 0 (Lib.compact so ++ List.replicate (so.length - (Lib.compact so).length) default).toArray) (fun k_ => P0_ k_)) := by
      refine ⟨fun n os q => ?_⟩
      have hle := Lib.compact_length_le so
      have hs := ownsRow_sorted (n := n) (os := os) (ts := so) hl2 hbase hb (by omega) h2 h3
      rw [hlen] at hs
      have hc := Lib.ownsRow_putRow (q := q) (k := (Lib.compact so).length) (ys := Lib.compact so ++ List.replicate (so.length - (Lib.compact so).length) default) hs (by simp; omega) (by omega)
      rw [List.take_left] at hc
      have hgr : w.grownBy (grow (putRow encStr (Sort.ahead w n) g 0 so.toArray) os) (some g) := grownBy_sorted _
      have hB2 := Lib.below_putRow (enc := encStr) (q := q) (g := g) (d := (Lib.compact so ++ List.replicate (so.length - (Lib.compact so).length) default).toArray) (hB.grown hgr hB.size (fun j hj => by cases hj; exact hbase)) hbase
      refine ⟨?_, hB2, ?_⟩
      · have hls : sortedL ss = Lib.compact so := by rw [← hso]; rfl
        rw [hls]
        refine Kd.R_of_own ?_ (fun k hk => .inl (hok k hk))
        rw [encs_strs', List.length_map]
        exact hc
      · refine Kept.of_grown (row := some g) ?_ (Kept.refl _ _) (fun k hk => .inl (hok k (by rw [← hk]; rfl)))
        refine ⟨hgr.os, hgr.tape, hgr.output, ?_, fun k hk hne => ?_⟩
        · have := hgr.size; simp only [putRow, mapBlock, Sort.ahead] at this ⊢; simpa using this
        · rw [← hgr.block k hk hne]
          have : g ≠ k := fun e => hne (by rw [e])
          simp [putRow, mapBlock, Sort.ahead, Array.getElem?_modify, this]
    clear hown hss hlen ho0 hok hH hgl hncap hcm hbig hl2 X hso hb h1 h2 h3 h4 hbase hbg hlen2 hmax hbig0
    have Hs1 := Aside0.mk hs1
    clear hs1
    go_enter Try.func57, Try.ntmps57
    go_wp2_with (first | (go_at_call 67; (with_reducible refine (Hs1.out).mono ?_); rintro e w' ⟨rfl, n, os, rfl⟩) | (go_at_call 68; (with_reducible refine (hs2.out _ _).mono ?_); rintro e w' ⟨rfl, q, rfl⟩))
    go_ret
    exact ⟨_, rfl, (hfin.out n os q).1, (hfin.out n os q).2.1, (hfin.out n os q).2.2⟩

/-- What stays of a list if all elements that are as told go. -/
def filterP {α : Type} (p : α → Option Bool) : List α → Option (List α)
  | [] => some []
  | x :: l => (p x).bind fun b => (filterP p l).bind fun r => some (if b = true then r else x :: r)

theorem filterP_mono {α : Type} {p p' : α → Option Bool} (h : ∀ x, LeO (p x) (p' x)) : ∀ l, LeO (filterP p l) (filterP p' l)
  | [] => LeO.refl _
  | x :: l => LeO.bind (h x) fun b => LeO.bind (filterP_mono h l) fun r => LeO.refl _

theorem filterP_cons {α : Type} {p : α → Option Bool} {x : α} {l r : List α} (h : filterP p (x :: l) = some r) : ∃ b r', p x = some b ∧ filterP p l = some r' ∧ r = if b = true then r' else x :: r' := by
  simp only [filterP] at h
  obtain ⟨b, hb, h⟩ := Option.bind_eq_some_iff.mp h
  obtain ⟨r', hr', h⟩ := Option.bind_eq_some_iff.mp h
  exact ⟨b, r', hb, hr', (Option.some.inj h).symm⟩

theorem filterP_idx {α : Type} (p : α → Option Bool) : ∀ (l : List α) (r : List α) (i : Nat), filterP p l = some r →
    (idxP p (i : Int) l = some (-1) ∧ r = l) ∨ ∃ j r', j < l.length ∧ idxP p (i : Int) l = some ((i + j : Nat) : Int) ∧ filterP p (l.drop (j + 1)) = some r' ∧ r = l.take j ++ r'
  | [], r, i, h => .inl ⟨rfl, by simpa [filterP] using h.symm⟩
  | x :: l, r, i, h => by
    obtain ⟨b, r', hb, hr', rfl⟩ := filterP_cons h
    cases b with
    | true => exact .inr ⟨0, r', by simp, by simp [idxP, hb], by simpa using hr', by simp⟩
    | false =>
      rcases filterP_idx p l r' (i + 1) hr' with ⟨h1, h2⟩ | ⟨j, r2, h1, h2, h3, h4⟩
      · refine .inl ⟨?_, by simp [h2]⟩
        simp only [idxP, hb, Option.bind_some, Bool.false_eq_true, if_false]
        exact h1
      · refine .inr ⟨j + 1, r2, by simp; omega, ?_, by simpa using h3, by simp [h4]⟩
        simp only [idxP, hb, Option.bind_some, Bool.false_eq_true, if_false]
        rw [show ((i : Int) + 1) = ((i + 1 : Nat) : Int) from rfl, h2]
        congr 2; omega

/-- What is asked of a function value beside rows that are written: in every world that keeps all other blocks. -/
def PredK {α : Type} (enc : α → Value) (p : α → Option Bool) (n : Nat) (lb : Array Value) (w : World) (S : Nat → Prop) : Prop :=
  ∀ (x : α) (W : World), Kept w W S → ∀ r, p x = some r → Calls Try.prog n (#[enc x] ++ lb) W fun e W' => e = .returned (.bool r) ∧ Below W.heap.size W W'

def slices_DeleteFunc_string_string.f (k : Nat) (l : List ByteArray) (p : ByteArray → Option Bool) : Option (List ByteArray) := filterP p l
theorem slices_DeleteFunc_string_string.monoP {k : Nat} {p p' : ByteArray → Option Bool} {l : List ByteArray} (h : ∀ x, LeO (p x) (p' x)) : LeO (slices_DeleteFunc_string_string.f k l p) (slices_DeleteFunc_string_string.f (k + 1) l p') := filterP_mono h l

theorem drop_set_lt {α : Type} (l : List α) (i j : Nat) (x : α) (h : i < j) : (l.set i x).drop j = l.drop j := by
  rw [List.drop_set, if_pos h]

/-- The first cells of a row whose last cells are written anew. -/
theorem R_cut {w : World} {e g base cap i : Nat} {ok : Nat → Prop} {xs : List ByteArray} {vs : List Value} (h : Kd.R Kd.string e w base ok (.slice (some ⟨g, 0, none⟩) xs.length cap) xs) (hi : i + vs.length ≤ xs.length) :
    Kd.R Kd.string e (w.setCells g i vs) base ok (.slice (some ⟨g, 0, none⟩) i cap) (xs.take i) := by
  have hok := h.1
  have ho := Kd.own_of_R h
  rcases ho.2 with ⟨h0, _⟩ | ⟨g', cap', cur, hv, hbase, hb, h1, h2, h3, h4⟩
  · cases h0
  cases hv
  have hx : xs.length ≤ cur.size := by rw [h3]; omega
  obtain ⟨cur', hb', hs', hl'⟩ := setCells_row vs i w cur hb (by omega)
  refine Kd.R_of_own (ok := ok) ⟨?_, .inr ⟨g, cap, cur', ?_, hbase, hb', ?_, h2, by rw [hs', h3], ?_⟩⟩ hok
  · simp [encs]
  · rw [List.length_take, Nat.min_eq_left (by omega)]
  · rw [List.length_take]; omega
  · have e1 : (xs.take i).length * 1 = i := by rw [List.length_take]; omega
    rw [hl', e1, List.append_assoc, List.take_append_of_le_length (by rw [List.length_take, Array.length_toList]; omega), List.take_take, Nat.min_self]
    have e2 : cur.toList.take i = (encs Value.string xs).take i := by
      rw [← h4, List.take_take, Nat.min_eq_left (by omega)]
    rw [e2]
    simp [encs, List.map_take]

set_option maxHeartbeats 4000000 in
theorem slices_DeleteFunc_string_string.calls (k : Nat) (P0_ : Nat → Prop) (u9000_ : Value) (l0 : List ByteArray) (p : ByteArray → Option Bool) (n : Nat) (lb : Array Value) (r : List ByteArray) (w0 w : World) (hB : Below w0.heap.size w0 w) (ho0 : Kd.R Kd.string 9 w w0.heap.size P0_ u9000_ l0)
    (hF0 : (∀ args w, (callFunc n args).run Try.prog w = .ok (.enter n args) w) ∧ PredK Value.string p n lb w (fun k_ => P0_ k_)) (h : slices_DeleteFunc_string_string.f k l0 p = some r) :
    Calls Try.prog 58 #[u9000_, .func (.func n) #[] lb] w fun e w' => ∃ v0_ : Value, e = .returned (v0_) ∧ Kd.R Kd.string 9 w' w0.heap.size (fun k_ => (P0_ k_ ∨ w.heap.size ≤ k_)) v0_ r ∧ Below w0.heap.size w0 w' ∧ Kept w w' (fun k_ => P0_ k_) := by
  obtain ⟨eg, hF⟩ := hF0
  obtain ⟨A0, c0, rfl⟩ := Kd.R_slice ho0
  have hlen := (Kd.R_reads' ho0).2.2.2.1
  have hcap := (Kd.R_reads' ho0).2.1
  have hpI : PredIn Value.string p n lb w := fun x W hb r hr => hF x W (Kept.of_below hb _) r hr
  unfold slices_DeleteFunc_string_string.f at h
  rcases filterP_idx p l0 r 0 h with ⟨h1, rfl⟩ | ⟨j0, r0, h1, h2, h3, rfl⟩
  · have hcall := Aside0.mk (IndexFuncS p n lb A0 c0 r (-1) w eg (Kd.R_reads' ho0).2.2 hcap hpI h1)
    have HO := Aside0.mk ho0
    have HB := Aside0.mk hB
    clear ho0 hF hpI h h1 hB eg
    go_enter Try.func58, Try.ntmps58
    go_wp2_with (go_at_call 66; (with_reducible refine (hcall.out).mono ?_); rintro e w' ⟨rfl, hb⟩)
    go_ret
    exact ⟨_, rfl, Kd.R_mono (Kd.R_below HO.out hb) (fun k hk => .inl hk), below_step HB.out hb, Kept.of_below hb _⟩
  · obtain ⟨g, cap, hv, hbase, hgl, cells, hcells⟩ := Kd.R_form ho0 (by omega)
    injection hv with e1 e2 e3
    subst e1; subst e3
    have hP0 : P0_ g := ho0.1 g rfl
    have hcall := Aside0.mk (IndexFuncS p n lb (some ⟨g, 0, none⟩) c0 l0 ((0 + j0 : Nat) : Int) w eg (Kd.R_reads' ho0).2.2 hcap hpI h2)
    rw [Nat.zero_add] at hcall
    have hj0 : (j0 : Int) ≤ (l0.length : Int) := by omega
    have hj1 : 0 ≤ (j0 : Int) := by omega
    have hjn : ((j0 : Int) == -1) = false := beq_eq_false_iff_ne.mpr (by omega)
    have HO := Aside0.mk ho0
    have HB := Aside0.mk hB
    have HF := Aside0.mk hF
    have H3 := Aside0.mk h3
    have HBS := Aside0.mk hbase
    clear ho0 hF hpI h h2 hB h3 hcells hbase e2
    go_enter Try.func58, Try.ntmps58
    go_wp2_with (go_at_call 66; (with_reducible refine (hcall.out).mono ?_); rintro e w1 ⟨rfl, hb1⟩)
    have HO1 := Aside0.mk (Kd.R_below HO.out hb1)
    have HB1 := Aside0.mk (below_step HB.out hb1)
    have HK1 : Aside0 (Kept w w1 (fun k_ => P0_ k_)) := ⟨Kept.of_below hb1 _⟩
    clear hb1 HO HB
    go_loopg [5, 6, 7] l0.length (fun gg v5 v6 _ wr => ∃ (i j : Nat) (cur rest : List ByteArray), v5 = .int .i64 i ∧ v6 = .int .i64 j ∧ i < j ∧ j ≤ l0.length ∧ l0.length - j ≤ gg ∧
      Aside0 (cur.length = l0.length) ∧ Aside0 (filterP p (l0.drop j) = some rest) ∧ Aside0 (l0.take j0 ++ r0 = cur.take i ++ rest) ∧ Aside0 (cur.drop j = l0.drop j) ∧
      Aside0 (Kd.R Kd.string 9 wr w0.heap.size P0_ (.slice (some ⟨g, 0, none⟩) l0.length c0) cur) ∧ Aside0 (Below w0.heap.size w0 wr) ∧ Aside0 (Kept w wr (fun k_ => P0_ k_)))
    case atStart => exact ⟨j0, j0 + 1, l0, r0, rfl, by go_num, by omega, by omega, by omega, ⟨rfl⟩, H3, ⟨rfl⟩, ⟨rfl⟩, HO1, HB1, HK1⟩
    case round =>
      clear HO1 HB1 HK1 H3 hcall
      obtain ⟨i, j, cur, rest, rfl, rfl, hij, hj, hgg, HL, HFI, HR, HD, HO, HB, HK⟩ := hrel
      have hij' : (i : Int) < (j : Int) := by omega
      have hjl' : (j : Int) ≤ (l0.length : Int) := by omega
      by_cases hlt : j < l0.length
      · have hltz : (j : Int) < (l0.length : Int) := by omega
        have hRc : Kd.R Kd.string 9 wr w0.heap.size P0_ (.slice (some ⟨g, 0, none⟩) cur.length c0) cur := by rw [HL.out]; exact HO.out
        have hcj := (Kd.R_cell (d := ByteArray.empty) hRc (j : Int) (by omega) (by rw [HL.out]; omega)).1
        have hci := (Kd.R_cell (d := ByteArray.empty) hRc (i : Int) (by omega) (by rw [HL.out]; omega))
        have hrd : rdOf ByteArray.empty cur (j : Int) = rdOf ByteArray.empty l0 (j : Int) := by
          have h1 := rdOf_drop ByteArray.empty cur j (by rw [HL.out]; exact hlt)
          have h2 := rdOf_drop ByteArray.empty l0 j hlt
          rw [HD.out, h2] at h1
          exact (List.cons.inj h1).1.symm
        rw [hrd] at hcj
        have hfd := HFI.out
        rw [rdOf_drop ByteArray.empty l0 j hlt] at hfd
        obtain ⟨b, r', hb, hr', hrest⟩ := filterP_cons hfd
        have hdrop : Aside0 (cur.drop (j + 1) = l0.drop (j + 1)) := ⟨by
          have := congrArg (List.drop 1) HD.out; simpa [List.drop_drop] using this⟩
        obtain ⟨hci1, hci2⟩ := hci
        have hcallp := Aside0.mk (HF.out _ wr HK.out b hb)
        generalize hy : rdOf ByteArray.empty l0 (j : Int) = y at hcj hcallp hrest
        simp only [Int.toNat_natCast] at hcj hci1 hci2
        generalize rdOf ByteArray.empty cur (i : Int) = old at hci1
        have HRe := Aside0.mk hrest
        have HR' := Aside0.mk hr'
        clear hRc hrd hfd hb hr' hrest hy
        cases b with
        | true =>
          go_wp2_with (go_at_fn n; (with_reducible refine (hcallp.out).mono ?_); rintro e w' ⟨rfl, hb'⟩)
          go_roundg (l0.length - (j + 1))
          case measure => omega
          case rel =>
            refine ⟨i, j + 1, cur, r', rfl, by go_num, by omega, by omega, by omega, HL, HR', ⟨by rw [HR.out, HRe.out]; rfl⟩, hdrop, ⟨Kd.R_below HO.out hb'⟩, ⟨below_step HB.out hb'⟩, ⟨Kept.below HK.out hb'⟩⟩
        | false =>
          have hgr := Kd.R_lt HO.out g rfl
          go_wp2_with (go_at_fn n; (with_reducible refine (hcallp.out).mono ?_); rintro e w' ⟨rfl, hb'⟩; have hc2 := pw_cell_below hb' hci1; have hf2 := (hb'.frozen (p := ⟨g, i, none⟩) hgr).trans hci2; have HB' := Aside0.mk hb'; clear hb')
          have HOb := Kd.R_below HO.out HB'.out
          rw [← HL.out] at HOb
          obtain ⟨HO2, hgrow⟩ := Kd.R_put HOb (i : Int) y
          rw [Int.toNat_natCast] at HO2 hgrow
          rw [HL.out] at HO2
          go_roundg (l0.length - (j + 1))
          case measure => omega
          case rel =>
            refine ⟨i + 1, j + 1, cur.set i y, r', by go_num, by go_num, by omega, by omega, by omega, ⟨by rw [List.length_set]; exact HL.out⟩, HR', ⟨?_⟩, ⟨?_⟩, ⟨HO2⟩, ⟨?_⟩, ⟨?_⟩⟩
            · rw [HR.out, HRe.out]
              have hil : i < cur.length := by rw [HL.out]; omega
              rw [List.take_set, List.take_succ_eq_append_getElem hil]
              simp only [Bool.false_eq_true, if_false]
              rw [List.set_append_right _ _ (by simp; omega)]
              simp [Nat.min_eq_left (Nat.le_of_lt hil)]
            · rw [drop_set_lt _ _ _ _ (by omega)]; exact hdrop.out
            · exact below_set (below_step HB.out HB'.out) HBS.out
            · exact Kept.setCell (Kept.below HK.out HB'.out) (.inl hP0) _
      · have hjl : j = l0.length := by omega
        subst hjl
        have hltz : ¬ (l0.length : Int) < (l0.length : Int) := by omega
        have hrest : rest = [] := by have := HFI.out; rw [List.drop_length] at this; simpa [filterP] using this.symm
        subst hrest
        have hRc : Kd.R Kd.string 9 wr w0.heap.size P0_ (.slice (some ⟨g, 0, none⟩) cur.length c0) cur := by rw [HL.out]; exact HO.out
        have hcells : ∀ t, t < l0.length - i → wr.cell? ⟨g, 0 + i + t, none⟩ = some (.string (rdOf ByteArray.empty cur ((i + t : Nat) : Int))) ∧ wr.frozen? ⟨g, 0 + i + t, none⟩ = false := by
          intro t ht
          have h := Kd.R_cell (d := ByteArray.empty) hRc ((i + t : Nat) : Int) (by omega) (by rw [HL.out]; omega)
          rw [Int.toNat_natCast] at h
          rw [Nat.zero_add]; exact h
        have hcl : ∀ ty, (Builtin.clear_ #[25] ty #[.slice (some ⟨g, i, none⟩) (l0.length - i) (c0 - i)]).run Try.prog wr = .ok (.tuple #[]) (wr.setCells g i (List.replicate (l0.length - i) (.string ⟨#[]⟩))) :=
          fun ty => Lib.run_clear_slice wr _ _ ty _ Try.underlying25 (fun w => by kernel_rfl) rfl rfl g i _ _ (by omega) (fun t ht => by have := (hcells t ht).1; rw [Nat.zero_add] at this; rw [this]; rfl) (fun t ht => by have := (hcells t ht).2; rw [Nat.zero_add] at this; exact this)
        clear hcells
        have hRf := Aside0.mk (R_cut (i := i) (vs := List.replicate (l0.length - i) (.string ⟨#[]⟩)) hRc (by rw [List.length_replicate, HL.out]; omega))
        clear hRc
        have hsame := Aside0.mk (setCells_same g (List.replicate (l0.length - i) (Value.string ⟨#[]⟩)) i wr)
        have hfar := Aside0.mk (fun k hk => setCells_far (g := g) (List.replicate (l0.length - i) (Value.string ⟨#[]⟩)) i (w := wr) k hk)
        have HR' := HR.out
        rw [List.append_nil] at HR'
        have HRR := Aside0.mk HR'
        clear HR'
        go_wp2
        go_ret
        refine ⟨_, rfl, ?_, ?_, ?_⟩
        · rw [HRR.out]; exact Kd.R_mono hRf.out (fun k hk => .inl hk)
        · obtain ⟨s1, s2, s3, s4⟩ := hsame.out
          exact ⟨s1.trans HB.out.os, s2.trans HB.out.tape, s3.trans HB.out.output, by rw [s4]; exact HB.out.size, fun k hk => (hfar.out k (by have := HBS.out; omega)).trans (HB.out.block k hk)⟩
        · obtain ⟨s1, s2, s3, s4⟩ := hsame.out
          refine ⟨by rw [s4]; exact HK.out.1, fun k hk hs => (hfar.out k (fun e => hs (by rw [e]; exact hP0))).trans (HK.out.2 k hk hs)⟩

end Go.Proofs.Ytjmcffejpgblfaa.PF
