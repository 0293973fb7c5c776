/- What holds for covers: covers of covers are covers, least covers have no other, covers end a word, grown words have their cover. -/
import Derived.Test.YtoadancbpgignaaPFLibY2
import Derived.Test.YtoadancbpgignaaPFLibZ
import Derived.Test.YtoadancbpgignaaPFLibGr
namespace Go.Proofs.Ytoadancbpgignaa.PF
open Go.RowKit Go.Proofs.YtoadancbpgignaaW.PrintWords Go.Proofs.YtoadancbpgignaaW.PrintLast Go.Proofs.YtoadancbpgignaaW.PrintMore
set_option linter.unusedVariables false
set_option linter.unusedSimpArgs false
set_option maxRecDepth 20000

/-- A word stands at a place. -/
def occ (w u : ByteArray) (p : Nat) : Prop := p + u.size ≤ w.size ∧ w.extract p (p + u.size) = u

theorem isC_iff (w u : ByteArray) : isC w u = true ↔ ∀ j, j < w.size → ∃ p, occ w u p ∧ p ≤ j ∧ j < p + u.size := by
 have hget : ∀ j, (cov w u).getD j false = (places w u).any fun p => decide (p.toNat ≤ j ∧ j < p.toNat + u.size ∧ j < w.size) := fun j => by
  unfold cov covP
  rw [setAll_get, List.length_replicate]
  have : (List.replicate w.size false).getD j false = false := by
   rw [List.getD_eq_getElem?_getD, List.getElem?_replicate]; split <;> rfl
  rw [this, Bool.false_or]
 constructor
 ·
  intro h j hj
  have := allT_get h j (by rw [cov_length]; exact hj)
  rw [hget, List.any_eq_true] at this
  obtain ⟨x, hx, hd⟩ := this
  obtain ⟨p, rfl, h1, h2⟩ := places_mem hx
  have hd := of_decide_eq_true hd
  rw [Int.toNat_natCast] at hd
  exact ⟨p, ⟨h1, h2⟩, hd.1, hd.2.1⟩
 ·
  intro h
  refine allT_of fun j hj => ?_
  rw [cov_length] at hj
  obtain ⟨p, ⟨h1, h2⟩, h3, h4⟩ := h j hj
  rw [hget, List.any_eq_true]
  refine ⟨(p : Int), plcs_has w u (w.size + 1) 0 p (by omega) (by omega) h1 h2, ?_⟩
  rw [Int.toNat_natCast]
  exact decide_eq_true ⟨h3, h4, hj⟩

theorem occ_trans {w u v : ByteArray} {p q : Nat} (h : occ w u p) (k : occ u v q) : occ w v (p + q) := by
 obtain ⟨h1, h2⟩ := h
 obtain ⟨k1, k2⟩ := k
 refine ⟨by omega, ?_⟩
 have : (w.extract p (p + u.size)).extract q (q + v.size) = v := by rw [h2]; exact k2
 rw [ByteArray.extract_extract, Nat.min_eq_left (by omega), show p + (q + v.size) = p + q + v.size by omega] at this
 exact this
theorem isC_trans {w u v : ByteArray} (h : isC w u = true) (k : isC u v = true) : isC w v = true := by
 rw [isC_iff] at h k ⊢
 intro j hj
 obtain ⟨p, hp, p1, p2⟩ := h j hj
 obtain ⟨q, hq, q1, q2⟩ := k (j - p) (by omega)
 exact ⟨p + q, occ_trans hp hq, by omega, by omega⟩

/-! ### the list of covers -/
theorem size_pre' (w : ByteArray) (m : Nat) (h : m ≤ w.size) : (w.extract 0 m).size = m := by rw [ByteArray.size_extract]; omega
theorem mem_cvF (w : ByteArray) (u : ByteArray) : ∀ d m, u ∈ cvF w d m ↔ ∃ q, m ≤ q ∧ q < m + d ∧ u = w.extract 0 q ∧ isC w (w.extract 0 q) = true
 | 0, m => by simp [cvF]; omega
 | d + 1, m => by
  rw [cvF]
  have ih := mem_cvF w u d (m + 1)
  by_cases h : isC w (w.extract 0 m) = true
  ·
   rw [if_pos h, List.mem_cons, ih]
   constructor
   ·
    rintro (rfl | ⟨q, h1, h2, h3, h4⟩)
    ·
     exact ⟨m, Nat.le_refl _, by omega, rfl, h⟩
    ·
     exact ⟨q, by omega, by omega, h3, h4⟩
   ·
    rintro ⟨q, h1, h2, h3, h4⟩
    by_cases e : q = m
    ·
     subst e; exact .inl h3
    ·
     exact .inr ⟨q, by omega, by omega, h3, h4⟩
  ·
   rw [if_neg h, ih]
   constructor
   ·
    rintro ⟨q, h1, h2, h3, h4⟩; exact ⟨q, by omega, by omega, h3, h4⟩
   ·
    rintro ⟨q, h1, h2, h3, h4⟩
    by_cases e : q = m
    ·
     subst e; exact absurd h4 h
    ·
     exact ⟨q, by omega, by omega, h3, h4⟩
theorem F_first {f : Nat → Bool} {g : Nat → ByteArray} {F : Nat → Nat → List ByteArray} (h1 : ∀ d m, F (d + 1) m = if f m = true then g m :: F d (m + 1) else F d (m + 1)) : ∀ d m, 0 < d → f (m + d - 1) = true → ∃ q l, m ≤ q ∧ q < m + d ∧ f q = true ∧ (∀ t, m ≤ t → t < q → f t = false) ∧ F d m = g q :: l := by
 intro d
 induction d with
 | zero => intro m h; omega
 | succ d ih =>
  intro m _ hl
  rw [h1]
  by_cases h : f m = true
  ·
   rw [if_pos h]
   exact ⟨m, _, Nat.le_refl _, by omega, h, fun t t1 t2 => by omega, rfl⟩
  ·
   rw [if_neg h]
   have hd : 0 < d := by
    rcases Nat.eq_zero_or_pos d with e | e
    ·
     subst e; exact absurd hl (by simpa using h)
    ·
     exact e
   obtain ⟨q, l, k1, k2, k3, k4, k5⟩ := ih (m + 1) hd (by rw [show m + 1 + d - 1 = m + (d + 1) - 1 by omega]; exact hl)
   refine ⟨q, l, by omega, by omega, k3, fun t t1 t2 => ?_, k5⟩
   by_cases e : t = m
   ·
    subst e; simpa using h
   ·
    exact k4 t (by omega) t2
theorem F_last {f : Nat → Bool} {g : Nat → ByteArray} {F : Nat → Nat → List ByteArray} (h0 : ∀ m, F 0 m = []) (h1 : ∀ d m, F (d + 1) m = if f m = true then g m :: F d (m + 1) else F d (m + 1)) : ∀ d m, 0 < d → f (m + d - 1) = true → ∃ l, F d m = l ++ [g (m + d - 1)] := by
 intro d
 induction d with
 | zero => intro m h; omega
 | succ d ih =>
  intro m _ hl
  rcases Nat.eq_zero_or_pos d with e | e
  ·
   subst e
   have e2 : m + (0 + 1) - 1 = m := by omega
   rw [e2] at hl ⊢
   rw [h1, if_pos hl, h0]; exact ⟨[], rfl⟩
  ·
   have e2 : m + 1 + d - 1 = m + (d + 1) - 1 := by omega
   obtain ⟨l, h⟩ := ih (m + 1) e (by rw [e2]; exact hl)
   rw [e2] at h
   rw [h1, h]
   split
   ·
    exact ⟨g m :: l, rfl⟩
   ·
    exact ⟨l, rfl⟩
theorem F_short {f : Nat → Bool} {g : Nat → ByteArray} {F : Nat → Nat → List ByteArray} (h0 : ∀ m, F 0 m = []) (h1 : ∀ d m, F (d + 1) m = if f m = true then g m :: F d (m + 1) else F d (m + 1)) : ∀ d m t, m + d = t + 1 → (∀ s, m ≤ s → s < t → f s = false) → (F d m).length ≤ 1 := by
 intro d
 induction d with
 | zero => intro m t _ _; rw [h0]; simp
 | succ d ih =>
  intro m t hm hno
  rw [h1]
  by_cases e : m < t
  ·
   rw [if_neg (by rw [hno m (Nat.le_refl _) e]; simp)]
   exact ih (m + 1) t (by omega) fun s s1 s2 => hno s (by omega) s2
  ·
   have hd : d = 0 := by omega
   subst hd
   rw [h0]
   split <;> simp
theorem cvF_0 (w : ByteArray) (m : Nat) : cvF w 0 m = [] := rfl
theorem cvF_1 (w : ByteArray) (d m : Nat) : cvF w (d + 1) m = if isC w (w.extract 0 m) = true then w.extract 0 m :: cvF w d (m + 1) else cvF w d (m + 1) := rfl
structure Least (w : ByteArray) (q : Nat) : Prop where
 pos : 1 ≤ q
 le : q ≤ w.size
 cov : isC w (w.extract 0 q) = true
 no : ∀ t, 1 ≤ t → t < q → isC w (w.extract 0 t) = false
theorem cvs_form (w : ByteArray) (h : 0 < w.size) : ∃ q l l', Least w q ∧ cvs w = w.extract 0 q :: l ∧ cvs w = l' ++ [w] := by
 have hs : isC w (w.extract 0 (1 + w.size - 1)) = true := by rw [show 1 + w.size - 1 = w.size by omega, extract_all]; exact isC_self w
 obtain ⟨q, l, h1, h2, h3, h4, h5⟩ := F_first (f := fun m => isC w (w.extract 0 m)) (g := fun m => w.extract 0 m) (cvF_1 w) w.size 1 h hs
 obtain ⟨l', h6⟩ := F_last (f := fun m => isC w (w.extract 0 m)) (g := fun m => w.extract 0 m) (cvF_0 w) (cvF_1 w) w.size 1 h hs
 replace h6 : cvF w w.size 1 = l' ++ [w.extract 0 (1 + w.size - 1)] := h6
 rw [show 1 + w.size - 1 = w.size by omega, extract_all] at h6
 exact ⟨q, l, l', ⟨h1, by omega, h3, h4⟩, h5, h6⟩
theorem cvs_least {w : ByteArray} {q : Nat} (h : Least w q) : cvs (w.extract 0 q) = [w.extract 0 q] := by
 have hsz := size_pre' w q h.le
 obtain ⟨t, l, l', ht, h1, h2⟩ := cvs_form (w.extract 0 q) (by rw [hsz]; exact h.pos)
 have htq : t = q := by
  rcases Nat.lt_or_ge t q with g | g
  ·
   exfalso
   have hc := ht.cov
   have e : (w.extract 0 q).extract 0 t = w.extract 0 t := by
    rw [ByteArray.extract_extract, Nat.min_eq_left (by omega), Nat.add_zero, Nat.zero_add]
   rw [e] at hc
   have := isC_trans h.cov hc
   rw [h.no t ht.pos g] at this
   cases this
  ·
   have := ht.le; rw [hsz] at this; omega
 subst htq
 have hl : (cvs (w.extract 0 t)).length = 1 := by
  have h3 := F_short (f := fun m => isC (w.extract 0 t) ((w.extract 0 t).extract 0 m)) (g := fun m => (w.extract 0 t).extract 0 m) (cvF_0 (w.extract 0 t)) (cvF_1 (w.extract 0 t)) (w.extract 0 t).size 1 t (by rw [hsz]; omega) (fun s s1 s2 => ht.no s s1 s2)
  have h4 := cvs_pos (w.extract 0 t) (by rw [hsz]; exact h.pos)
  have h5 : (cvs (w.extract 0 t)).length ≤ 1 := h3
  omega
 rw [h2] at hl ⊢
 rw [List.length_append, List.length_singleton] at hl
 have : l' = [] := List.eq_nil_of_length_eq_zero (by omega)
 rw [this]; rfl
theorem cvs_alone {w : ByteArray} {q : Nat} (h0 : 0 < w.size) (h : Least w q) : ((cvs w).length : Int) = 1 ↔ w.extract 0 q = w := by
 obtain ⟨t, l, l', ht, h1, h2⟩ := cvs_form w h0
 have htq : t = q := by
  rcases Nat.lt_trichotomy t q with g | g | g
  ·
   have := ht.cov; rw [h.no t ht.pos g] at this; cases this
  ·
   exact g
  ·
   have := h.cov; rw [ht.no q h.pos g] at this; cases this
 subst htq
 constructor
 ·
  intro hl
  rw [h2, List.length_append, List.length_singleton] at hl
  have : l' = [] := List.eq_nil_of_length_eq_zero (by omega)
  rw [this] at h2
  rw [h2] at h1
  simp only [List.nil_append, List.cons.injEq] at h1
  exact h1.1.symm
 ·
  intro e
  have := cvs_least h
  rw [e] at this
  rw [this]; rfl
theorem cvs_mem {w u : ByteArray} (h : u ∈ cvs w) : ∃ m, 1 ≤ m ∧ m ≤ w.size ∧ u = w.extract 0 m ∧ isC w u = true := by
 obtain ⟨q, h1, h2, rfl, h4⟩ := (mem_cvF w u _ _).1 h
 exact ⟨q, h1, by omega, rfl, h4⟩

/-! ### covers are seeds, and end a word -/
theorem allT_setR {c : List Bool} (h : allT c = true) (d i : Nat) : allT (setR d i c) = true := by
 refine allT_of fun j hj => ?_
 rw [setR_length] at hj
 rw [setR_get, allT_get h j hj, Bool.true_or]
theorem isC_isSd {w u : ByteArray} (h : isC w u = true) : isSd w u = true := by
 unfold isSd
 have h1 : allT (putP (cov w u) (bord (seedP w u) (u.size - 1))) = true := by
  cases bord (seedP w u) (u.size - 1) with
  | none => exact h
  | some m => exact allT_setR h _ _
 cases bord (seedS w u) (u.size - 1) with
 | none => exact h1
 | some m => exact allT_setR h1 _ _
theorem cover_end {w u : ByteArray} (h : isC w u = true) (h0 : 0 < w.size) : u.size ≤ w.size ∧ w.extract (w.size - u.size) w.size = u := by
 rw [isC_iff] at h
 obtain ⟨p, ⟨h1, h2⟩, h3, h4⟩ := h (w.size - 1) (by omega)
 have e : w.size - u.size = p := by omega
 refine ⟨by omega, ?_⟩
 rw [e, show w.size = p + u.size by omega]
 rw [← h2]
 congr 1
 rw [h2]

/-! ### grown words -/
theorem occ_append {w u : ByteArray} (x : ByteArray) {p : Nat} (h : occ w u p) : occ (w ++ x) u p := by
 refine ⟨by rw [ByteArray.size_append]; have := h.1; omega, ?_⟩
 have h2 := h.2
 refine ba_ext ?_
 have h3 := congrArg (fun a : ByteArray => a.data.toList) h2
 simp only [ByteArray.data_extract, Array.toList_extract, List.extract_eq_take_drop, ByteArray.data_append, Array.toList_append] at h3 ⊢
 have hl : p + u.size ≤ w.data.toList.length := by rw [Array.length_toList]; exact h.1
 rw [show p + u.size - p = u.size by omega] at h3 ⊢
 rw [List.drop_append_of_le_length (by omega), List.take_append_of_le_length (by rw [List.length_drop]; omega)]
 exact h3
theorem occ_end (e u : ByteArray) : occ (e ++ u) u e.size := by
 refine ⟨by rw [ByteArray.size_append]; exact Nat.le_refl _, ?_⟩
 refine ba_ext ?_
 simp only [ByteArray.data_extract, Array.toList_extract, List.extract_eq_take_drop, ByteArray.data_append, Array.toList_append]
 rw [show e.size + u.size - e.size = u.size by omega]
 have hl : e.size = e.data.toList.length := by rw [Array.length_toList]; rfl
 rw [hl, List.drop_left]
 exact List.take_of_length_le (by rw [Array.length_toList]; exact Nat.le_refl _)
theorem grow_step {acc u : ByteArray} {x : Nat} (hx : x < u.size) (hb : bordG u x = true) (hc : isC acc u = true) (hz : ∃ z, acc = z ++ u) :
  isC (acc ++ u.extract x u.size) u = true ∧ ∃ z, acc ++ u.extract x u.size = z ++ u := by
 obtain ⟨z, hz⟩ := hz
 have hb := of_decide_eq_true hb
 have hu : u = u.extract 0 x ++ u.extract x u.size := by
  refine ba_ext ?_
  simp only [ByteArray.data_append, Array.toList_append, ByteArray.data_extract, Array.toList_extract, List.extract_eq_take_drop, List.drop_zero, Nat.sub_zero]
  rw [List.take_of_length_le (l := List.drop x u.data.toList) (by rw [List.length_drop, Array.length_toList]; exact Nat.le_refl _), List.take_append_drop]
 have hu2 : u = u.extract 0 (u.size - x) ++ u.extract (u.size - x) u.size := by
  refine ba_ext ?_
  simp only [ByteArray.data_append, Array.toList_append, ByteArray.data_extract, Array.toList_extract, List.extract_eq_take_drop, List.drop_zero, Nat.sub_zero]
  rw [List.take_of_length_le (l := List.drop (u.size - x) u.data.toList) (by rw [List.length_drop, Array.length_toList]; exact Nat.le_refl _), List.take_append_drop]
 have hend : acc ++ u.extract x u.size = (z ++ u.extract 0 (u.size - x)) ++ u := by
  rw [hz]
  have e1 : z ++ u = z ++ (u.extract 0 (u.size - x) ++ u.extract (u.size - x) u.size) := by rw [← hu2]
  have e2 : (z ++ u.extract 0 (u.size - x)) ++ u = (z ++ u.extract 0 (u.size - x)) ++ (u.extract 0 x ++ u.extract x u.size) := by rw [← hu]
  rw [e1, e2, ← hb, ByteArray.append_assoc, ByteArray.append_assoc, ByteArray.append_assoc]
 refine ⟨?_, _, hend⟩
 rw [isC_iff] at hc ⊢
 intro j hj
 rw [ByteArray.size_append, size_suf] at hj
 by_cases g : j < acc.size
 ·
  obtain ⟨p, hp, p1, p2⟩ := hc j g
  exact ⟨p, occ_append _ hp, p1, p2⟩
 ·
  have hsz : (z ++ u.extract 0 (u.size - x)).size = acc.size - x := by
   rw [ByteArray.size_append, ByteArray.size_extract, hz, ByteArray.size_append]; omega
  have haz : acc.size = z.size + u.size := by rw [hz, ByteArray.size_append]
  refine ⟨(z ++ u.extract 0 (u.size - x)).size, ?_, by omega, by omega⟩
  rw [hend]; exact occ_end _ _
theorem bldL_ok {u : ByteArray} : ∀ (l : List Nat) (acc : ByteArray), (∀ x ∈ l, x < u.size) → l.all (bordG u) = true → isC acc u = true → (∃ z, acc = z ++ u) → isC (bldL u l acc) u = true
 | [], acc, _, _, h, _ => h
 | x :: l, acc, hx, hb, h, hz => by
  rw [List.all_cons, Bool.and_eq_true] at hb
  obtain ⟨h1, h2⟩ := grow_step (hx x (by simp)) hb.1 h hz
  exact bldL_ok l _ (fun y hy => hx y (by simp [hy])) hb.2 h1 h2
theorem bldL_word {u : ByteArray} : ∀ (l : List Nat) (acc : ByteArray), (bldL u l acc).size = acc.size + totL u.size l ∧ ((∀ v ∈ bytesOf u, isLet v = true) → (∀ v ∈ bytesOf acc, isLet v = true) → ∀ v ∈ bytesOf (bldL u l acc), isLet v = true)
 | [], acc => ⟨rfl, fun _ h => h⟩
 | x :: l, acc => by
  obtain ⟨h1, h2⟩ := bldL_word l (acc ++ u.extract x u.size)
  refine ⟨?_, fun hu ha => h2 hu fun v hv => ?_⟩
  ·
   rw [bldL, h1, ByteArray.size_append, size_suf, totL]; omega
  ·
   have e : bytesOf (acc ++ u.extract x u.size) = bytesOf acc ++ bytesOf (u.extract x u.size) := by simp [bytesOf, ByteArray.data_append]
   rw [e, List.mem_append, bytes_extract] at hv
   exact hv.elim (ha v) fun g => hu v (List.mem_of_mem_take (List.mem_of_mem_drop g))
theorem isW_def (a : ByteArray) : isW a = true ↔ a.size ≤ 60 ∧ ∀ v ∈ bytesOf a, isLet v = true := by
 simp only [isW, Bool.and_eq_true, decide_eq_true_eq, List.all_eq_true]

end Go.Proofs.Ytoadancbpgignaa.PF
