/- The law Returns answers true for all codes: return words, gaps, windows, antipowers and common factors are as it says. -/
import Derived.Test.YtfehmbifcoajeaaGreatPFLibW
import Derived.Test.YtfehmbifcoajeaaGreatPFLibDr
import Derived.Test.YtfehmbifcoajeaaGreatPFx8
namespace Go.Proofs.YtfehmbifcoajeaaGreat.Pure
open Go.RowKit Go.Proofs.YtfehmbifcoajeaaGreat.PF Go.Proofs.YtfehmbifcoajeaaGreatW.PrintWords Go.Proofs.YtfehmbifcoajeaaGreatW.PrintLast
set_option linter.unusedSimpArgs false
set_option linter.unusedVariables false
set_option maxRecDepth 20000

theorem j12_ev {c : List Int} (hc : okC c) : Ev (fun k => laws_FnReturns.j12 k c) true := by
 obtain ⟨w, u, h1, h2, h3⟩ := drawCommon_ok hc
 obtain ⟨r, a0, a1, a2⟩ := lcf_ev w u h2 h3
 refine ev_suc ?_
 simp only [laws_FnReturns.j12]
 refine ev_bnd h1 (ev_bnd a2 (ev_bnd a1 ?_))
 simp only [if_true, bne_false]
 refine ev_suc ?_
 simp only [laws_FnReturns.j13, Bool.false_eq_true, if_false]
 by_cases h0 : r.2 = 0
 ·
  obtain ⟨g1, g2, g3⟩ := a0 h0
  obtain ⟨g4, j, n, g5, g6⟩ := lcf_in w u w.size
  rw [← g3] at g4 g6
  have hx : isW r.1 = true := by rw [g6]; exact isW_extract g1 _ _
  have hsz : r.1.size = n := by rw [g6, ByteArray.size_extract]; omega
  have p1 := (places_pos w r.1).2 ((hasB_iff w r.1).2 ⟨j, by omega, by rw [hsz]; exact g6.symm⟩)
  have p2 := (places_pos u r.1).2 g4
  simp only [h0, if_true]
  refine ev_bnd (placesOf_ev g1 hx) (ev_bnd (placesOf_ev g2 hx) ?_)
  simp only [if_true, show ¬ (((places w r.1).length : Int) < 1) by omega, show ¬ (((places u r.1).length : Int) < 1) by omega, if_false]
  exact ev_of rfl
 ·
  simp only [h0, if_false]; exact ev_of rfl

theorem l3_ev {c : List Int} {y : ByteArray} {n b : Nat} {l : List ByteArray} (hB : Blk y n b l) (hl : l.length ≤ 1000) {i : Nat} (hi : i < l.length)
  (hnext : Ev (fun k => laws_FnReturns.l2 k c y (n : Int) (b : Int) (l.length : Int) (l.take (i + 1)) ((i + 1 : Nat) : Int)) true) :
  ∀ (e j : Nat), j + e = i → Ev (fun k => laws_FnReturns.l3 k c y (n : Int) (b : Int) (l.length : Int) (l.take i) (i : Int) l[i] (j : Int)) true := by
 have ht : (l.take i).length = i := by rw [List.length_take]; omega
 intro e
 induction e with
 | zero =>
  intro j hj
  refine ev_suc ?_
  simp only [laws_FnReturns.l3, show ¬ ((j : Int) < ((l.take i).length : Int)) by omega, if_false, show (l.take i).length < 8796093022208 by omega, if_true, wrap_succ (i := i) (by omega)]
  rw [← List.take_succ_eq_append_getElem hi]
  exact hnext
 | succ e ih =>
  intro j hj
  have hjl : j < l.length := by omega
  have er : rdOf ByteArray.empty (l.take i) (j : Int) = l[j] := by rw [rdOf_nat _ _ _ (by omega), List.getElem_take]
  have hne : ¬ l[j].toList = l[i].toList := fun h => List.pairwise_iff_getElem.1 hB.1 j i hjl hi (by omega) (ba_inj.1 h)
  refine ev_suc ?_
  simp only [laws_FnReturns.l3, show ((j : Int) < ((l.take i).length : Int)) by omega, show (0 : Int) ≤ (j : Int) by omega, if_true, er, hne, if_false, wrap_succ (i := j) (by omega)]
  exact ih (j + 1) (by omega)
theorem l2_ev {c : List Int} (hc : okC c) {y : ByteArray} (hy : isW y = true) {n b : Nat} {l : List ByteArray} (hB : Blk y n b l) (hl : l.length ≤ 1000) :
  ∀ (d i : Nat), i + d = l.length → Ev (fun k => laws_FnReturns.l2 k c y (n : Int) (b : Int) (l.length : Int) (l.take i) (i : Int)) true := by
 have hs := isW_size hy
 intro d
 induction d with
 | zero =>
  intro i hi
  refine ev_suc ?_
  simp only [laws_FnReturns.l2, show ¬ ((i : Int) < (l.length : Int)) by omega, if_false]
  exact j12_ev hc
 | succ d ih =>
  intro i hi
  have hil : i < l.length := by omega
  obtain ⟨q1, q2⟩ := hB.2 i hil
  have e0 : (i : Int) * (n : Int) = ((i * n : Nat) : Int) := by simp
  have e1 : wrap64 ((i : Int) * (n : Int)) = ((i * n : Nat) : Int) := wrap_nat e0 (by omega)
  have e2 : wrap64 ((b : Int) + ((i * n : Nat) : Int)) = ((b + i * n : Nat) : Int) := wrap_nat (by omega) (by omega)
  have hf := factorAt_ev hy q1
  rw [← q2] at hf
  refine ev_suc ?_
  simp only [laws_FnReturns.l2, show ((i : Int) < (l.length : Int)) by omega, if_true, e1, e2]
  refine ev_bnd hf ?_
  simp only [if_true]
  exact l3_ev hB hl hil (ih (i + 1) (by omega)) i 0 (by omega)
theorem blk_len {y : ByteArray} {n b : Nat} {l : List ByteArray} (hn : 1 ≤ n) (hB : Blk y n b l) : l.length ≤ y.size := by
 rcases Nat.eq_zero_or_pos l.length with h | h
 ·
  omega
 ·
  obtain ⟨q1, _⟩ := hB.2 (l.length - 1) (by omega)
  have : l.length - 1 ≤ (l.length - 1) * n := Nat.le_mul_of_pos_right _ hn
  omega
theorem j8_ev {c : List Int} (hc : okC c) : Ev (fun k => laws_FnReturns.j8 k c) true := by
 obtain ⟨w, m, h1, h2⟩ := drawAnti_ok hc
 obtain ⟨r, a0, a1, a2⟩ := antipower_ev w m h2
 refine ev_suc ?_
 simp only [laws_FnReturns.j8]
 refine ev_bnd h1 (ev_bnd a2 (ev_bnd a1 ?_))
 simp only [if_true, bne_false]
 refine ev_suc ?_
 simp only [laws_FnReturns.j9, Bool.false_eq_true, if_false]
 by_cases h0 : r.2.2 = 0
 ·
  obtain ⟨hw, n, b, l, g1, g2, g3, g4, g5⟩ := a0 h0
  have hs := isW_size hw
  have hl := blk_len g2 g5
  simp only [h0, if_true, g1, g3, g4]
  exact l2_ev hc hw g5 (by omega) l.length 0 (by omega)
 ·
  simp only [h0, if_false]; exact j12_ev hc

theorem l1_ev {c : List Int} (hc : okC c) {x : ByteArray} (hx : isW x = true) {n q : Nat} (hn : n ≤ 60) (hq : wholeB x q (fac x n) = true) :
  ∀ (d i : Nat), i + d = (fac x q).length → Ev (fun k => laws_FnReturns.l1 k c (n : Int) (fac x n) (fac x q) (i : Int)) true := by
 have hs := isW_size hx
 have hl := fac_length_le x q
 have hl2 := fac_length_le x n
 intro d
 induction d with
 | zero =>
  intro i hi
  refine ev_suc ?_
  simp only [laws_FnReturns.l1, show ¬ ((i : Int) < ((fac x q).length : Int)) by omega, if_false]
  refine ev_suc ?_
  simp only [laws_FnReturns.j7, Bool.false_eq_true, if_false]
  exact j8_ev hc
 | succ d ih =>
  intro i hi
  have hil : i < (fac x q).length := by omega
  refine ev_suc ?_
  simp only [laws_FnReturns.l1, show ((i : Int) < ((fac x q).length : Int)) by omega, if_true]
  refine ev_suc ?_
  simp only [laws_FnReturns.j7]
  by_cases h5 : (i : Int) < 5
  ·
   have hmem := List.getElem_mem hil
   have er : rdOf ByteArray.empty (fac x q) (i : Int) = (fac x q)[i] := rdOf_nat _ _ i hil
   have hv : isW (fac x q)[i] = true := by
    obtain ⟨j, _, e⟩ := (mem_fac x q _).1 hmem
    rw [e]; exact isW_extract hx _ _
   have hf := factorsOf_ev hv hn
   rw [fac_same hq hmem] at hf
   simp only [decide_eq_true h5, if_true, show (0 : Int) ≤ (i : Int) by omega, show ((i : Int) < ((fac x q).length : Int)) by omega, er]
   refine ev_bnd hf ?_
   simp only [if_true]
   refine ev_bnd (words5_ev (fac x n) (by omega)) ?_
   simp only [if_true, wrap_succ (i := i) (by omega)]
   exact ih (i + 1) (by omega)
  ·
   simp only [decide_eq_false h5, Bool.false_eq_true, if_false]
   exact j8_ev hc
theorem j3_ev {c : List Int} (hc : okC c) : Ev (fun k => laws_FnReturns.j3 k c) true := by
 obtain ⟨w, m, h1, h2⟩ := drawWindow_ok hc
 obtain ⟨r, a0, a1, a2⟩ := window_ev w m h2
 refine ev_suc ?_
 simp only [laws_FnReturns.j3]
 refine ev_bnd h1 (ev_bnd a2 (ev_bnd a1 ?_))
 simp only [if_true, bne_false]
 refine ev_suc ?_
 simp only [laws_FnReturns.j4, Bool.false_eq_true, if_false]
 by_cases h0 : r.2 = 0
 ·
  obtain ⟨hw, n, q, g1, g2, g3, g4, g5, g6⟩ := a0 h0
  have hs := isW_size hw
  simp only [h0, if_true, g1, g2]
  refine ev_bnd (factorsOf_ev hw g5) (ev_bnd (factorsOf_ev hw (by omega)) ?_)
  simp only [if_true, show ¬ ((q : Int) < (n : Int)) by omega, if_false]
  rw [decide_eq_false (show ¬ ((q : Int) > (w.size : Int)) by omega)]
  refine ev_suc ?_
  simp only [laws_FnReturns.j5, Bool.false_eq_true, if_false]
  exact l1_ev hc hw g5 g6 (fac w q).length 0 (by omega)
 ·
  simp only [h0, if_false]; exact j8_ev hc

theorem l0_ev {c : List Int} (hc : okC c) {ws : List ByteArray} {gs : List Int} (hw : ws.length ≤ 1000) (hg : gs.length ≤ 1000) (hin : ∀ x ∈ ws, (x.size : Int) ∈ gs) :
  ∀ (d i : Nat), i + d = ws.length → Ev (fun k => laws_FnReturns.l0 k c ws gs (i : Int)) true := by
 intro d
 induction d with
 | zero =>
  intro i hi
  refine ev_suc ?_
  simp only [laws_FnReturns.l0, show ¬ ((i : Int) < (ws.length : Int)) by omega, if_false]
  exact j3_ev hc
 | succ d ih =>
  intro i hi
  have hil : i < ws.length := by omega
  have er : rdOf ByteArray.empty ws (i : Int) = ws[i] := rdOf_nat _ _ i hil
  refine ev_suc ?_
  simp only [laws_FnReturns.l0, show ((i : Int) < (ws.length : Int)) by omega, show (0 : Int) ≤ (i : Int) by omega, if_true, er]
  refine ev_bnd (has_ev gs _ (by omega) (hin _ (List.getElem_mem hil))) ?_
  simp only [if_true, wrap_succ (i := i) (by omega)]
  exact ih (i + 1) (by omega)

theorem byte_ok {x : Int} (h : (Lit.int .u8 x).wf = true) : 0 ≤ x ∧ x ≤ 255 := by
 have e1 : IntKind.u8.min = 0 := by decide
 have e2 : IntKind.u8.max = 255 := by decide
 simp [Lit.wf] at h
 omega

theorem FnReturns : laws_FnReturns.Pure := by
 intro c hc1 hc2 hc3
 refine ev_get ?_
 unfold laws_FnReturns.f laws_big.f
 simp only [Option.bind_some]
 by_cases hbig : (c.length : Int) > 4096
 ·
  have e : decide ((c.length : Int) > 4096) = true := decide_eq_true hbig
  simp only [e, if_true]; exact ev_of rfl
 have e : decide ((c.length : Int) > 4096) = false := decide_eq_false hbig
 simp only [e, Bool.false_eq_true, if_false]
 have hc : okC c := ⟨by omega, fun x hx => byte_ok (hc3 x hx)⟩
 obtain ⟨w, u, h1, h2, h3⟩ := drawReturn_ok hc
 obtain ⟨r, r0, a0, a1, a2⟩ := returnWords_ev w u h2 h3
 obtain ⟨g, g0, b0, b1, b2⟩ := gapsOf_ev w u h2 h3
 refine ev_bnd h1 (ev_bnd a2 (ev_bnd a1 (ev_bnd b2 (ev_bnd b1 ?_))))
 simp only [if_true]
 refine ev_bnd (words5_ev r.1 r0) ?_
 simp only [if_true]
 refine ev_bnd (like_ev g.1 g0) ?_
 simp only [Bool.not_true]
 refine ev_suc ?_
 simp only [laws_FnReturns.j0, Bool.false_eq_true, if_false]
 by_cases h0 : r.2 = 0
 ·
  obtain ⟨hcd, hp, hr⟩ := a0 h0
  have hg := b0 hcd (by omega)
  have hall := (codeW_zero.1 hcd).1
  have hw : isW w = true := by simp at hall; exact hall.1
  have hu : isW u = true := by simp at hall; exact hall.2
  have hs := isW_size hw
  have hpl := places_length w u
  have hin := plc_in w u
  have hso : (places w u).Pairwise (· < ·) := plcs_sorted w u (w.size + 1) 0
  have hpo := placesOf_ev hw hu
  generalize places w u = P at hp hr hg hpl hin hso hpo
  have hgl := gps_length P
  have hwl := rws_length w P
  have hcl := canon_length_le (rws w P)
  have hgx : ∀ x ∈ gps (P), 0 ≤ x ∧ x ≤ 1000 := by
   have key : ∀ l : List Int, (∀ x ∈ l, 0 ≤ x ∧ x ≤ (w.size : Int)) → l.Pairwise (· < ·) → ∀ x ∈ gps l, 0 ≤ x ∧ x ≤ 1000 := by
    intro l
    induction l with
    | nil => intro _ _ x hx; cases hx
    | cons a l ih =>
     intro hi hs2 x hx
     cases l with
     | nil => cases hx
     | cons b l =>
      rw [gps] at hx
      rcases List.mem_cons.1 hx with rfl | hx
      ·
       have y1 := hi a (by simp)
       have y2 := hi b (by simp)
       have y3 : a < b := (List.pairwise_cons.1 hs2).1 b (by simp)
       omega
      ·
       exact ih (fun y hy => hi y (List.mem_cons_of_mem _ hy)) (List.pairwise_cons.1 hs2).2 x hx
   exact key _ hin hso
  have hsum := gps_sum (P) (by omega)
  have hlast : rd (P) (((P).length - 1 : Nat) : Int) = (P)[(P).length - 1] := rd_nat _ _ (by omega)
  have hfirst : rd (P) 0 = (P)[0] := by
   have := rd_nat (P) 0 (by omega)
   rw [show ((0 : Nat) : Int) = 0 from rfl] at this
   exact this
  have y1 := hin _ (List.getElem_mem (show (P).length - 1 < (P).length by omega))
  have y2 := hin _ (List.getElem_mem (show 0 < (P).length by omega))
  have s1 := sum_ev (gps P) (by omega) hgx
  have s2 : ¬ (((canon (rws w P)).length : Int) > ((gps P).length : Int)) := by omega
  have s3 : (0 : Int) ≤ ((P.length - 1 : Nat) : Int) := by omega
  have s4 : ((P.length - 1 : Nat) : Int) < (P.length : Int) := by omega
  have s5 : (0 : Int) < (P.length : Int) := by omega
  have s6 := l0_ev hc (ws := canon (rws w P)) (gs := gps P) (by omega) (by omega) (fun x hx => rws_gap w _ hin hso x ((mem_canon _ x).1 hx)) (canon (rws w P)).length 0 (by omega)
  have e1 : wrap64 (((P).length : Int) - 1) = (((P).length - 1 : Nat) : Int) := wrap_nat (by omega) (by omega)
  have e2 : wrap64 ((P)[(P).length - 1] - (P)[0]) = (P)[(P).length - 1] - (P)[0] := wrap_id (by omega) (by omega)
  have e3 : wrap64 (((gps (P)).length : Int) + 1) = ((P).length : Int) := by rw [wrap_id (by omega) (by omega)]; omega
  rw [hg]
  simp only [h0, if_true, hr]
  refine ev_bnd hpo ?_
  simp only [if_true, e3, s2, if_false]
  refine ev_bnd s1 ?_
  simp only [e1, s3, s4, s5, if_true, hlast, hfirst, e2, hsum, bne_false]
  refine ev_suc ?_
  simp only [laws_FnReturns.j1, Bool.false_eq_true, if_false]
  exact s6
 ·
  simp only [h0, if_false]; exact j3_ev hc

end Go.Proofs.YtfehmbifcoajeaaGreat.Pure
