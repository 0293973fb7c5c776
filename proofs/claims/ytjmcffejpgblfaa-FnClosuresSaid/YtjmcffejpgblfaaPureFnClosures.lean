/- The law Closures answers true for all codes: parts, closures, directed words, closed and privileged words are as it says. -/
import Derived.Test.YtjmcffejpgblfaaPFLibW
import Derived.Test.YtjmcffejpgblfaaPFLibDr
import Derived.Test.YtjmcffejpgblfaaPFx12
namespace Go.Proofs.Ytjmcffejpgblfaa.Pure
open Go.RowKit Go.Proofs.Ytjmcffejpgblfaa.PF Go.Proofs.YtjmcffejpgblfaaW.PrintWords Go.Proofs.YtjmcffejpgblfaaW.PrintLast
set_option linter.unusedSimpArgs false
set_option linter.unusedVariables false
set_option maxRecDepth 20000

theorem l0_ev {w : ByteArray} (hw : isW w = true) : ∀ (d i : Nat), i + d = (partsW w).length → Ev (fun k => laws_FnClosures.l0 k w (partsW w) (i : Int)) true := by
 have hs := isW_size hw
 have hl := partsW_length w hs
 obtain ⟨hp, _⟩ := parts_ok w hs
 intro d
 induction d with
 | zero =>
  intro i hi
  refine ev_suc ?_
  simp only [laws_FnClosures.l0, show ¬ ((i : Int) < ((partsW w).length : Int)) by omega, if_false]
  refine ev_bnd (joined_ev w hs) (ev_of ?_)
  simp
 | succ d ih =>
  intro i hi
  have hil : i < (partsW w).length := by omega
  obtain ⟨u1, u2, a, b, u3⟩ := hp _ (List.getElem_mem hil)
  have er : rdOf ByteArray.empty (partsW w) (i : Int) = (partsW w)[i] := rdOf_nat _ _ i hil
  have hnext := ih (i + 1) (by omega)
  generalize (partsW w)[i] = u at u1 u2 u3 er
  have hu : isW u = true := by rw [u3]; exact isW_extract hw _ _
  have a1 := isPal_ev hu
  rw [u1] at a1
  have he : ¬ u.toList = ([] : List UInt8) := fun e => by have := tl_len u; rw [e] at this; simp at this; omega
  have y1 : (i : Int) < ((partsW w).length : Int) := by omega
  have y2 : (0 : Int) ≤ (i : Int) := by omega
  refine ev_suc ?_
  simp only [laws_FnClosures.l0, y1, y2, if_true, er]
  refine ev_bnd a1 ?_
  simp only [if_true, he, if_false, wrap_succ (i := i) (by omega)]
  exact hnext

theorem byte_ok {x : Int} (h : (Lit.int .u8 x).wf = true) : 0 ≤ x ∧ x ≤ 255 := by
 have e1 : IntKind.u8.min = 0 := by decide
 have e2 : IntKind.u8.max = 255 := by decide
 simp [Lit.wf] at h
 omega

theorem j9_ev {w : ByteArray} (r : List ByteArray × Int) (f1 : isW w = true → r = (partsW w, 0)) (f2 : isW w = false → r = ([], 1)) : Ev (fun k => laws_FnClosures.j9 k w r.1 r.2) true := by
 refine ev_suc ?_
 simp only [laws_FnClosures.j9]
 by_cases h0 : isW w = true
 ·
  rw [f1 h0]
  simp only [if_true]
  exact l0_ev h0 (partsW w).length 0 (by omega)
 ·
  rw [f2 (by simpa using h0)]
  simp only [show ¬ ((1 : Int) = 0) by omega, if_false]
  exact ev_of rfl

theorem FnClosures : laws_FnClosures.Pure := by
 intro c hc1 hc2 hc3
 refine ev_get ?_
 unfold laws_FnClosures.f laws_big.f
 simp only [Option.bind_some]
 by_cases hbig : (c.length : Int) > 4096
 ·
  have e : decide ((c.length : Int) > 4096) = true := decide_eq_true hbig
  simp only [e, if_true]; exact ev_of rfl
 have e : decide ((c.length : Int) > 4096) = false := decide_eq_false hbig
 simp only [e, Bool.false_eq_true, if_false]
 have hc : okC c := ⟨by omega, fun x hx => byte_ok (hc3 x hx)⟩
 obtain ⟨w, h1, h2⟩ := drawParts_ok hc
 obtain ⟨ds, h3, h4⟩ := drawDirected_ok hc
 obtain ⟨u, h5, h6⟩ := drawClosed_ok hc
 obtain ⟨v, h7, h8⟩ := drawCC_ok hc
 obtain ⟨r, f0, f1, f2, f3, f4⟩ := fewest_ev w h2
 obtain ⟨cl, a0, a1, a2⟩ := closureOf_ev w h2
 obtain ⟨dw, b0, b1, b2⟩ := directed_ev ds h4
 obtain ⟨k1, k2⟩ := closedW_ev u h6
 obtain ⟨pv, m0, m00, m1, m2⟩ := priv_ev u h6
 obtain ⟨cc, n0, n00, n1, n2⟩ := countClosed_ev v h8
 have e5 : ∀ b : Bool, (b != b) = false := fun b => by cases b <;> rfl
 have hj9 := j9_ev (w := w) r f1 f2
 -- closures
 have hj8 : Ev (fun k => laws_FnClosures.j8 k w r.1 r.2 cl.1 cl.2) true := by
  refine ev_suc ?_
  simp only [laws_FnClosures.j8]
  by_cases g : cl.2 = 0
  ·
   obtain ⟨q1, q2, q3, q4, q5, q6⟩ := a0 g
   have hs := isW_size q1
   have hs2 := isW_size q3
   have z1 := isPal_ev q3
   rw [q2] at z1
   have y1 : ¬ (cl.1.size : Int) < (w.size : Int) := by omega
   have y2 : (0 : Int) ≤ (w.size : Int) := by omega
   have y3 : (w.size : Int) ≤ (cl.1.size : Int) := by omega
   have y4 : (w.size : Int) > 0 → ¬ ((cl.1.size : Int) > 2 * (w.size : Int) - 1) := fun h => by have := q6 (by omega); omega
   have y5 : wrap64 ((wrap64 (2 * (w.size : Int))) - 1) = 2 * (w.size : Int) - 1 := by rw [wrap_id (x := 2 * (w.size : Int)) (by omega) (by omega), wrap_id (by omega) (by omega)]
   simp only [g, if_true]
   refine ev_bnd z1 ?_
   simp only [if_true, y1, if_false, y2, y3, Int.toNat_natCast, q5, y5]
   by_cases hz : (w.size : Int) > 0
   ·
    have y6 := y4 hz
    simp only [hz, if_true, y6, if_false]; exact hj9
   ·
    simp only [hz, if_false]; exact hj9
  ·
   simp only [g, if_false]; exact hj9
 -- directed words
 have hj7 : Ev (fun k => laws_FnClosures.j7 k w r.1 r.2 cl.1 cl.2 dw.1 dw.2 false) true := by
  refine ev_suc ?_
  simp only [laws_FnClosures.j7, Bool.false_eq_true, if_false]
  by_cases g : dw.2 = 0
  ·
   obtain ⟨q1, q2⟩ := b0 g
   have z1 := isPal_ev q2
   rw [(isPal_iff dw.1).2 q1.pal] at z1
   have z2 := defect_ev q2
   rw [palAll_rich dw.1 q1.rich, Int.sub_self] at z2
   simp only [g, if_true]
   refine ev_bnd z1 (ev_bnd z2 ?_)
   simp only [if_true]
   exact hj8
  ·
   simp only [g, if_false]; exact hj8
 -- closed and privileged words
 have hj6 : Ev (fun k => laws_FnClosures.j6 k w r.1 r.2 cl.1 cl.2 dw.1 dw.2 (if isW u = true then (clo u, (0 : Int)) else (false, 1)).1 (if isW u = true then (clo u, (0 : Int)) else (false, 1)).2 pv.1 pv.2 false) true := by
  refine ev_suc ?_
  simp only [laws_FnClosures.j6, Bool.false_eq_true, if_false]
  by_cases g : isW u = true
  ·
   obtain ⟨q1, q2⟩ := m0 g
   simp only [g, if_true, q1]
   by_cases p : pv.1 = true
   ·
    simp only [p, if_true, q2 p, Bool.not_true]; exact hj7
   ·
    simp only [p, if_false]; exact hj7
  ·
   simp only [g, if_false, show ¬ ((1 : Int) = 0) by omega]; exact hj7
 have hj5 : Ev (fun k => laws_FnClosures.j5 k w r.1 r.2 cl.1 cl.2 dw.1 dw.2 (if isW u = true then (clo u, (0 : Int)) else (false, 1)).1 (if isW u = true then (clo u, (0 : Int)) else (false, 1)).2 pv.1 pv.2 v cc.1 cc.2.1 cc.2.2 false) true := by
  refine ev_suc ?_
  simp only [laws_FnClosures.j5, Bool.false_eq_true, if_false]
  by_cases g : isW v = true
  ·
   obtain ⟨x, y, q1, q2, q3⟩ := n0 g
   have y1 : ¬ ((y : Int) > (x : Int)) := by omega
   have y2 : (v.size : Int) > 0 → ¬ ((y : Int) < 1) := fun h => by have := q3 (by omega); omega
   rw [q1]
   simp only [if_true, y1, if_false]
   by_cases hz : (v.size : Int) > 0
   ·
    simp only [hz, if_true, decide_eq_false (y2 hz)]; exact hj6
   ·
    simp only [hz, if_false]; exact hj6
  ·
   have := n00 (by simpa using g)
   simp only [this, show ¬ ((1 : Int) = 0) by omega, if_false]; exact hj6
 have s1 : Ev (fun k => laws_words9.f k r.1 r.1) true := words9_ev _ (by omega)
 refine ev_bnd h1 (ev_bnd f4 (ev_bnd f3 ?_))
 simp only [if_true]
 refine ev_bnd s1 ?_
 simp only [Bool.not_true]
 refine ev_suc ?_
 simp only [laws_FnClosures.j0, Bool.false_eq_true, if_false]
 refine ev_bnd a2 (ev_bnd a1 ?_)
 simp only [if_true, bne_false]
 refine ev_suc ?_
 simp only [laws_FnClosures.j1, Bool.false_eq_true, if_false]
 refine ev_bnd h3 (ev_bnd b2 (ev_bnd b1 ?_))
 simp only [if_true, bne_false]
 refine ev_suc ?_
 simp only [laws_FnClosures.j2, Bool.false_eq_true, if_false]
 refine ev_bnd h5 (ev_bnd k2 (ev_bnd k1 ?_))
 simp only [if_true, e5]
 refine ev_suc ?_
 simp only [laws_FnClosures.j3, Bool.false_eq_true, if_false]
 refine ev_bnd m2 (ev_bnd m1 ?_)
 simp only [if_true, e5]
 refine ev_suc ?_
 simp only [laws_FnClosures.j4, Bool.false_eq_true, if_false]
 refine ev_bnd h7 (ev_bnd n2 (ev_bnd n1 ?_))
 simp only [if_true, bne_false]
 exact hj5

end Go.Proofs.Ytjmcffejpgblfaa.Pure
