/- Words with a vector of letters: the program's way and the reference's. -/
import Derived.Test.YtippkbjdifmdnaaPFLibE
import Derived.Test.YtippkbjdifmdnaaPFx16
import Derived.Test.YtippkbjdifmdnaaPFx8
namespace Go.Proofs.Ytippkbjdifmdnaa.PF
open Go.RowKit Go.Proofs.YtippkbjdifmdnaaW.PrintWords Go.Proofs.YtippkbjdifmdnaaW.PrintLast Go.Proofs.YtippkbjdifmdnaaW.PrintMore
set_option linter.unusedVariables false
set_option linter.unusedSimpArgs false
set_option maxRecDepth 20000

theorem allP_mem' {α : Type} (p : α → Option Bool) (q : α → Bool) : ∀ l : List α, (∀ x ∈ l, p x = some (q x)) → allP p l = some (l.all q)
  | [], _ => rfl
  | x :: l, h => by
    rw [allP, h x List.mem_cons_self, List.all_cons]
    simp only [Option.bind_some]
    cases q x with
    | true => rw [if_pos rfl, allP_mem' p q l fun y hy => h y (List.mem_cons_of_mem _ hy), Bool.true_and]
    | false => rw [if_neg (by decide), Bool.false_and]

/-- The letter of a number. -/
def ltr (c : Nat) : ByteArray := strOfNums [(wrap64 (97 + (c : Int))) % 256]
theorem ltr_size (c : Nat) : (ltr c).size = 1 := by simp [ltr, strOfNums, ByteArray.size]

/-- A vector with one letter less. -/
def less1 (v : List Int) (c : Nat) : List Int := v.set c (wrap64 (rd v (c : Int) - 1))

/-- The words that begin with the letters from c on. -/
def wtl (F : List Int → List ByteArray) (v : List Int) : Nat → Nat → List ByteArray
  | 0, _ => []
  | e + 1, c => (if rd v (c : Int) = 0 then [] else (F (less1 v c)).map (ltr c ++ ·)) ++ wtl F v e (c + 1)
/-- The words with a vector, d letters together. -/
def wds : Nat → List Int → List ByteArray
  | 0, _ => [⟨#[]⟩]
  | d + 1, v => wtl (wds d) v 5 0

theorem wtl_length (F : List Int → List ByteArray) (M : Nat) (hF : ∀ u, (F u).length ≤ M) (v : List Int) : ∀ e c, (wtl F v e c).length ≤ e * M
  | 0, _ => by simp [wtl]
  | e + 1, c => by
    have h := wtl_length F M hF v e (c + 1)
    have h2 := hF (less1 v c)
    rw [wtl, List.length_append, Nat.succ_mul]
    split
    · simp only [List.length_nil]; omega
    · rw [List.length_map]; omega
theorem wds_length : ∀ d v, (wds d v).length ≤ 5 ^ d
  | 0, _ => by simp [wds]
  | d + 1, v => by
    have h := wtl_length (wds d) (5 ^ d) (wds_length d) v 5 0
    rw [wds, Nat.pow_succ]; omega
theorem wds_small {d : Nat} (hd : d ≤ 8) (v : List Int) : (wds d v).length ≤ 400000 := by
  have h1 := wds_length d v
  have h2 : 5 ^ d ≤ 5 ^ 8 := Nat.pow_le_pow_right (by omega) hd
  have h3 : 5 ^ 8 = 390625 := by decide
  omega
theorem wtl_size (F : List Int → List ByteArray) (d : Nat) (hF : ∀ u, ∀ x ∈ F u, x.size = d) (v : List Int) : ∀ e c, ∀ x ∈ wtl F v e c, x.size = d + 1
  | 0, _ => by simp [wtl]
  | e + 1, c => by
    intro x hx
    rw [wtl, List.mem_append] at hx
    rcases hx with hx | hx
    · split at hx
      · cases hx
      · obtain ⟨y, hy, rfl⟩ := List.mem_map.1 hx
        have := hF _ y hy
        rw [ByteArray.size_append, ltr_size]; omega
    · exact wtl_size F d hF v e (c + 1) x hx
theorem wds_size : ∀ d v, ∀ x ∈ wds d v, x.size = d
  | 0, _ => by intro x hx; simp [wds] at hx; subst hx; rfl
  | d + 1, v => wtl_size (wds d) d (wds_size d) v 5 0

/-- A vector of d letters. -/
def Vec (d : Nat) (v : List Int) : Prop := v.length = 5 ∧ (∀ x ∈ v, 0 ≤ x ∧ x ≤ 8) ∧ v.sum = d

theorem five (v : List Int) (h : v.length = 5) : ∃ a b c d e, v = [a, b, c, d, e] := by
  match v, h with
  | [a, b, c, d, e], _ => exact ⟨a, b, c, d, e, rfl⟩

theorem Vec.step {d : Nat} {v : List Int} (h : Vec (d + 1) v) (c : Nat) (hc : c < 5) (hn : ¬ rd v (c : Int) = 0) : Vec d (less1 v c) := by
  obtain ⟨h1, h2, h3⟩ := h
  obtain ⟨a0, a1, a2, a3, a4, rfl⟩ := five v h1
  simp only [List.mem_cons, List.not_mem_nil, or_false, forall_eq_or_imp, forall_eq] at h2
  obtain ⟨g0, g1, g2, g3, g4⟩ := h2
  simp only [List.sum_cons, List.sum_nil] at h3
  have hw : ∀ x : Int, 0 ≤ x → x ≤ 8 → wrap64 (x - 1) = x - 1 := fun x h1 h2 => wrap_id (by omega) (by omega)
  unfold less1
  obtain rfl | rfl | rfl | rfl | rfl : c = 0 ∨ c = 1 ∨ c = 2 ∨ c = 3 ∨ c = 4 := by omega
  all_goals
    rw [rd_nat _ _ (by simp)] at hn ⊢
    simp only [List.getElem_cons_zero, List.getElem_cons_succ] at hn ⊢
    rw [hw _ (by omega) (by omega)]
    simp only [List.set_cons_zero, List.set_cons_succ, Vec, List.length_cons, List.length_nil, List.mem_cons, List.not_mem_nil, or_false, forall_eq_or_imp, forall_eq, List.sum_cons, List.sum_nil]
    refine ⟨trivial, ⟨by omega, by omega, by omega, by omega, by omega⟩, by omega⟩

theorem Vec.zero {v : List Int} (h : Vec 0 v) (c : Nat) (hc : c < 5) : rd v (c : Int) = 0 := by
  obtain ⟨h1, h2, h3⟩ := h
  obtain ⟨a0, a1, a2, a3, a4, rfl⟩ := five v h1
  simp only [List.mem_cons, List.not_mem_nil, or_false, forall_eq_or_imp, forall_eq] at h2
  obtain ⟨g0, g1, g2, g3, g4⟩ := h2
  simp only [List.sum_cons, List.sum_nil] at h3
  obtain rfl | rfl | rfl | rfl | rfl : c = 0 ∨ c = 1 ∨ c = 2 ∨ c = 3 ∨ c = 4 := by omega
  all_goals
    rw [rd_nat _ _ (by simp)]
    simp only [List.getElem_cons_zero, List.getElem_cons_succ]
    omega

theorem Vec.ex {d : Nat} {v : List Int} (h : Vec (d + 1) v) : ∃ c : Nat, c < 5 ∧ ¬ rd v (c : Int) = 0 := by
  obtain ⟨h1, h2, h3⟩ := h
  obtain ⟨a0, a1, a2, a3, a4, rfl⟩ := five v h1
  simp only [List.sum_cons, List.sum_nil] at h3
  by_cases e0 : a0 = 0
  · by_cases e1 : a1 = 0
    · by_cases e2 : a2 = 0
      · by_cases e3 : a3 = 0
        · exact ⟨4, by omega, by rw [rd_nat _ _ (by simp)]; simp only [List.getElem_cons_zero, List.getElem_cons_succ]; omega⟩
        · exact ⟨3, by omega, by rw [rd_nat _ _ (by simp)]; simp only [List.getElem_cons_zero, List.getElem_cons_succ]; omega⟩
      · exact ⟨2, by omega, by rw [rd_nat _ _ (by simp)]; simp only [List.getElem_cons_zero, List.getElem_cons_succ]; omega⟩
    · exact ⟨1, by omega, by rw [rd_nat _ _ (by simp)]; simp only [List.getElem_cons_zero, List.getElem_cons_succ]; omega⟩
  · exact ⟨0, by omega, by rw [rd_nat _ _ (by simp)]; simp only [List.getElem_cons_zero, List.getElem_cons_succ]; omega⟩

theorem wtl_ne (F : List Int → List ByteArray) (v : List Int) (c : Nat) (hn : ¬ rd v (c : Int) = 0) (hF : F (less1 v c) ≠ []) : ∀ e i, i ≤ c → c < i + e → wtl F v e i ≠ []
  | 0, _ => by intro h1 h2; omega
  | e + 1, i => by
    intro h1 h2 h
    rw [wtl, List.append_eq_nil_iff] at h
    by_cases e0 : i = c
    · subst e0
      rw [if_neg hn, List.map_eq_nil_iff] at h
      exact hF h.1
    · exact wtl_ne F v c hn hF e (i + 1) (by omega) (by omega) h.2
theorem wds_ne : ∀ d v, Vec d v → wds d v ≠ []
  | 0, _, _ => by simp [wds]
  | d + 1, v, h => by
    obtain ⟨c, hc, hn⟩ := h.ex
    exact wtl_ne (wds d) v c hn (wds_ne d _ (h.step c hc hn)) 5 0 (by omega) (by omega)

/-- Are all numbers from c on zero? -/
def allz (v : List Int) : Nat → Nat → Bool
  | 0, _ => true
  | e + 1, c => decide (rd v (c : Int) = 0) && allz v e (c + 1)
theorem allz_zero (v : List Int) : ∀ (e c : Nat), (∀ j : Nat, c ≤ j → j < c + e → rd v (j : Int) = 0) → allz v e c = true
  | 0, _, _ => rfl
  | e + 1, c, h => by
    rw [allz, decide_eq_true (h c (Nat.le_refl _) (by omega)), Bool.true_and]
    exact allz_zero v e (c + 1) fun j h1 h2 => h j (by omega) (by omega)
theorem allz_some (v : List Int) (j : Nat) (hn : ¬ rd v (j : Int) = 0) : ∀ e c, c ≤ j → j < c + e → allz v e c = false
  | 0, _ => by intro h1 h2; omega
  | e + 1, c => by
    intro h1 h2
    rw [allz]
    by_cases e0 : c = j
    · subst e0; rw [decide_eq_false hn, Bool.false_and]
    · rw [allz_some v j hn e (c + 1) (by omega) (by omega), Bool.and_false]
theorem wtl_zero (F : List Int → List ByteArray) (v : List Int) : ∀ (e c : Nat), (∀ j : Nat, c ≤ j → j < c + e → rd v (j : Int) = 0) → wtl F v e c = []
  | 0, _, _ => rfl
  | e + 1, c, h => by
    rw [wtl, if_pos (h c (Nat.le_refl _) (by omega)), List.nil_append]
    exact wtl_zero F v e (c + 1) fun j h1 h2 => h j (by omega) (by omega)

theorem own_f (v : List Int) (h : v.length = 5) : spec_l01Own.f v = some v := by
  unfold spec_l01Own.f
  simp only [Option.bind_some, List.length_nil, List.nil_append, h]
  rw [if_pos (by omega)]

theorem spec_loop (w : ByteArray) (hw : w.size ≤ 100) (v : List Int) (hv : v.length = 5) (F : List Int → List ByteArray) (hl : ∀ u, (F u).length ≤ 400000)
    (hF : ∀ c : Nat, c < 5 → ¬ rd v (c : Int) = 0 → Ev (fun k => spec_l07Words.f k (w ++ ltr c) (less1 v c)) ((F (less1 v c)).map ((w ++ ltr c) ++ ·))) :
    ∀ (e c : Nat) (acc : List ByteArray) (b : Bool), c + e = 5 → acc.length ≤ c * 400000 → Ev (fun k => spec_l07Words.l0 k w v acc b (c : Int)) (if (b && allz v e c) = true then [w] else acc ++ (wtl F v e c).map (w ++ ·)) := by
  intro e
  induction e with
  | zero =>
    intro c acc b hc ha
    refine ev_suc ?_
    have a1 : ¬ (c : Int) < 5 := by omega
    simp only [spec_l07Words.l0, a1, if_false, allz, Bool.and_true, wtl, List.map_nil, List.append_nil]
    cases b
    · exact ev_of rfl
    · exact ev_of rfl
  | succ e ih =>
    intro c acc b hc ha
    have hA : acc.length ≤ (c + 1) * 400000 := by rw [Nat.succ_mul]; exact Nat.le_add_right_of_le ha
    refine ev_suc ?_
    have a1 : (c : Int) < 5 := by omega
    have a2 : (0 : Int) ≤ (c : Int) := by omega
    have a3 : (c : Int) < (v.length : Int) := by omega
    have a4 : wrap64 ((c : Int) + 1) = ((c + 1 : Nat) : Int) := wrap_succ (by omega)
    simp only [spec_l07Words.l0, a1, a2, a3, a4, if_true, own_f v hv, Option.bind_some]
    by_cases h0 : rd v (c : Int) = 0
    · simp only [h0, if_true]
      refine ev_congr (ih (c + 1) acc b (by omega) hA) ?_
      rw [allz, wtl, decide_eq_true h0, if_pos h0, Bool.true_and, List.nil_append]
    · simp only [h0, if_false]
      have hs : w.size + (ltr c).size ≤ 9223372036854775807 := by rw [ltr_size]; omega
      have hl2 : acc.length + ((F (less1 v c)).map ((w ++ ltr c) ++ ·)).length < 8796093022208 := by
        have := hl (less1 v c)
        rw [List.length_map]; omega
      show Ev (fun k => (spec_l01Letter.f (c : Int)).bind _) _
      unfold spec_l01Letter.f
      simp only [Option.bind_some]
      show Ev (fun k => if w.size + (ltr c).size ≤ 9223372036854775807 then _ else _) _
      simp only [hs, if_true]
      refine ev_bnd (hF c (by omega) h0) ?_
      simp only [hl2, if_true]
      refine ev_congr (ih (c + 1) _ false (by omega) (by rw [List.length_append, List.length_map]; have := hl (less1 v c); omega)) ?_
      rw [Bool.false_and, if_neg (by decide), allz, decide_eq_false h0, Bool.false_and, Bool.and_false, if_neg (by decide), wtl, if_neg h0, List.map_append, List.map_map, List.append_assoc]
      refine congrArg (fun z => acc ++ (z ++ _)) (List.map_congr_left fun x _ => ?_)
      show (w ++ ltr c) ++ x = w ++ (ltr c ++ x)
      exact ByteArray.append_assoc

theorem spec_words : ∀ (d : Nat), d ≤ 8 → ∀ (v : List Int) (w : ByteArray), Vec d v → w.size + d ≤ 100 → Ev (fun k => spec_l07Words.f k w v) ((wds d v).map (w ++ ·)) := by
  intro d
  induction d with
  | zero =>
    intro _ v w hv hw
    refine ev_suc ?_
    simp only [spec_l07Words.f]
    refine ev_congr (spec_loop w (by omega) v hv.1 (wds 0) (wds_small (by omega)) (fun c hc hn => absurd (hv.zero c hc) hn) 5 0 [] true rfl (by simp)) ?_
    rw [allz_zero v 5 0 fun j _ h => hv.zero j (by omega)]
    show [w] = [w ++ ByteArray.empty]
    rw [ByteArray.append_empty]
  | succ d ih =>
    intro hd v w hv hw
    refine ev_suc ?_
    simp only [spec_l07Words.f]
    refine ev_congr (spec_loop w (by omega) v hv.1 (wds d) (wds_small (by omega)) (fun c hc hn => ih (by omega) _ _ (hv.step c hc hn) (by rw [ByteArray.size_append, ltr_size]; omega)) 5 0 [] true rfl (by simp)) ?_
    obtain ⟨c, hc, hn⟩ := hv.ex
    rw [allz_some v c hn 5 0 (by omega) (by omega), Bool.and_false, if_neg (by decide), List.nil_append]
    rfl

theorem impl_in (v : List Int) (c : Nat) (hc : c < 5) (ws : List ByteArray) (hw : ws.length ≤ 400000) (hs : ∀ x ∈ ws, x.size ≤ 100) (R : List ByteArray) : ∀ (e i : Nat) (acc : List ByteArray), i + e = ws.length → acc.length + e ≤ 4000000 →
    Ev (fun k => impl_arranged.l0 k v (acc ++ (ws.drop i).map (ltr c ++ ·)) v (v.length : Int) ((c + 1 : Nat) : Int)) R → Ev (fun k => impl_arranged.l1 k v acc (c : Int) v (v.length : Int) (c : Int) ws (ws.length : Int) (i : Int)) R := by
  intro e
  induction e with
  | zero =>
    intro i acc hi ha hR
    refine ev_suc ?_
    have a1 : ¬ (i : Int) < (ws.length : Int) := by omega
    have a4 : wrap64 ((c : Int) + 1) = ((c + 1 : Nat) : Int) := wrap_succ (by omega)
    simp only [impl_arranged.l1, a1, if_false, a4]
    rw [List.drop_eq_nil_of_le (by omega), List.map_nil, List.append_nil] at hR
    exact hR
  | succ e ih =>
    intro i acc hi ha hR
    refine ev_suc ?_
    have hil : i < ws.length := by omega
    have a1 : (i : Int) < (ws.length : Int) := by omega
    have a2 : (0 : Int) ≤ (i : Int) := by omega
    have a4 : wrap64 ((i : Int) + 1) = ((i + 1 : Nat) : Int) := wrap_succ (by omega)
    have a5 : (ltr c).size + ws[i].size ≤ 9223372036854775807 := by have := hs _ (List.getElem_mem hil); rw [ltr_size]; omega
    have a6 : acc.length < 8796093022208 := by omega
    have a7 : rdOf ByteArray.empty ws (i : Int) = ws[i] := rdOf_nat _ ws i hil
    simp only [impl_arranged.l1, a1, a2, if_true, a4, a7]
    show Ev (fun k => (impl_letter.f (c : Int)).bind _) _
    unfold impl_letter.f
    simp only [Option.bind_some]
    show Ev (fun k => if (ltr c).size + ws[i].size ≤ 9223372036854775807 then _ else _) _
    simp only [a5, a6, if_true]
    refine ih (i + 1) _ (by omega) (by rw [List.length_append, List.length_singleton]; omega) ?_
    rw [List.drop_eq_getElem_cons hil, List.map_cons] at hR
    rw [List.append_assoc]
    exact hR

theorem impl_loop (v : List Int) (hv : v.length = 5) (F : List Int → List ByteArray) (hl : ∀ u, (F u).length ≤ 400000) (hs : ∀ u, ∀ x ∈ F u, x.size ≤ 100)
    (hF : ∀ c : Nat, c < 5 → ¬ rd v (c : Int) = 0 → Ev (fun k => impl_arranged.f k (less1 v c)) (F (less1 v c))) :
    ∀ (e c : Nat) (acc : List ByteArray), c + e = 5 → acc.length ≤ c * 400000 → Ev (fun k => impl_arranged.l0 k v acc v (v.length : Int) (c : Int)) (if acc ++ wtl F v e c = [] then [⟨#[]⟩] else acc ++ wtl F v e c) := by
  intro e
  induction e with
  | zero =>
    intro c acc hc ha
    refine ev_suc ?_
    have a1 : ¬ (c : Int) < (v.length : Int) := by omega
    simp only [impl_arranged.l0, a1, if_false, wtl, List.append_nil]
    by_cases h : acc = []
    · simp only [h, if_true]; exact ev_of rfl
    · simp only [h, if_false]; exact ev_of rfl
  | succ e ih =>
    intro c acc hc ha
    have hA : acc.length ≤ (c + 1) * 400000 := by rw [Nat.succ_mul]; exact Nat.le_add_right_of_le ha
    refine ev_suc ?_
    have a2 : (0 : Int) ≤ (c : Int) := by omega
    have a3 : (c : Int) < (v.length : Int) := by omega
    have a4 : wrap64 ((c : Int) + 1) = ((c + 1 : Nat) : Int) := wrap_succ (by omega)
    have a5 : slices_Clone_int64_int64.f v = some v := by unfold slices_Clone_int64_int64.f; rw [hv]; rfl
    simp only [impl_arranged.l0, a2, a3, a4, if_true, a5, Option.bind_some]
    by_cases h0 : rd v (c : Int) = 0
    · simp only [h0, if_true]
      refine ev_congr (ih (c + 1) acc (by omega) hA) ?_
      rw [wtl, if_pos h0, List.nil_append]
    · simp only [h0, if_false]
      refine ev_bnd (hF c (by omega) h0) ?_
      have hlc := hl (less1 v c)
      refine impl_in v c (by omega) _ hlc (hs _) _ _ 0 acc (Nat.zero_add _) (by omega) ?_
      rw [List.drop_zero]
      refine ev_congr (ih (c + 1) _ (by omega) (by rw [List.length_append, List.length_map]; omega)) ?_
      rw [wtl, if_neg h0, List.append_assoc]

theorem impl_words : ∀ (d : Nat), d ≤ 8 → ∀ (v : List Int), Vec d v → Ev (fun k => impl_arranged.f k v) (wds d v) := by
  intro d
  induction d with
  | zero =>
    intro _ v hv
    refine ev_suc ?_
    simp only [impl_arranged.f]
    refine ev_congr (impl_loop v hv.1 (wds 0) (wds_small (by omega)) (fun u x hx => by have := wds_size 0 u x hx; omega) (fun c hc hn => absurd (hv.zero c hc) hn) 5 0 [] rfl (by simp)) ?_
    rw [wtl_zero _ v 5 0 fun j _ h => hv.zero j (by omega)]
    rfl
  | succ d ih =>
    intro hd v hv
    refine ev_suc ?_
    simp only [impl_arranged.f]
    refine ev_congr (impl_loop v hv.1 (wds d) (wds_small (by omega)) (fun u x hx => by have := wds_size d u x hx; omega) (fun c hc hn => ih (by omega) _ (hv.step c hc hn)) 5 0 [] rfl (by simp)) ?_
    rw [List.nil_append]
    exact if_neg (wds_ne (d + 1) v hv)

end Go.Proofs.Ytippkbjdifmdnaa.PF
