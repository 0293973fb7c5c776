/- The law FactorNumbers answers true for all codes: special factors, edges, cycles and numbers of factors are as it says. -/
import Derived.Test.YtgfnkdoennbipaaGreatPFLibW
import Derived.Test.YtgfnkdoennbipaaGreatPFLibDr
import Derived.Test.YtgfnkdoennbipaaGreatPFx5
namespace Go.Proofs.YtgfnkdoennbipaaGreat.Pure
open Go.RowKit Go.Proofs.YtgfnkdoennbipaaGreat.PF Go.Proofs.YtgfnkdoennbipaaGreatW.PrintWords Go.Proofs.YtgfnkdoennbipaaGreatW.PrintLast
set_option linter.unusedSimpArgs false
set_option linter.unusedVariables false
set_option maxRecDepth 20000

theorem eq_ev {c : List Int} (hc : okC c) : Ev (fun k => (spec_DrawHaveEqualFactors.f k c).bind fun bt728 => ((impl_HaveEqualFactors.f k bt728.1 bt728.2.1 bt728.2.2).bind fun bt731 => ((spec_HaveEqualFactors.f k bt728.1 bt728.2.1 bt728.2.2).bind fun bt733 => (if bt731.2 = bt733.2 then (some (bt731.1 == bt733.1)) else (some false))))) true := by
 obtain ⟨w, u, m, h1, h2, h3⟩ := drawEqual_ok hc
 obtain ⟨r, a1, a2⟩ := haveEqual_ev w u m h2 h3
 refine ev_bnd h1 (ev_bnd a2 (ev_bnd a1 ?_))
 simp only [if_true, show ∀ b : Bool, (b == b) = true from fun b => by cases b <;> rfl]
 exact ev_of rfl

theorem l2_ev {c : List Int} (hc : okC c) {x : ByteArray} (hx : isW x = true) : ∀ (d i : Nat), i + d = x.size + 1 → Ev (fun k => laws_FnFactorNumbers.l2 k c (numF x (x.size + 1) 0) (x.size : Int) (i : Int)) true := by
 have hs := isW_size hx
 have hl := numF_length x (x.size + 1) 0
 intro d
 induction d with
 | zero =>
  intro i hi
  refine ev_suc ?_
  simp only [laws_FnFactorNumbers.l2, show ¬ ((i : Int) ≤ (x.size : Int)) by omega, if_false]
  exact eq_ev hc
 | succ d ih =>
  intro i hi
  have e1 : rd (numF x (x.size + 1) 0) (i : Int) = ((fac x i).length : Int) := by
   rw [rd_nat _ _ (by omega), numF_get x (x.size + 1) 0 i (by omega), Nat.zero_add]
  have h1 := fac_length_le x i
  have h2 : 0 < (fac x i).length := List.length_pos_of_mem ((mem_fac x i _).2 ⟨0, by omega, rfl⟩)
  have e2 : wrap64 ((wrap64 ((x.size : Int) - (i : Int))) + 1) = (x.size : Int) - i + 1 := by
   rw [wrap_id (x := (x.size : Int) - i) (by omega) (by omega), wrap_id (by omega) (by omega)]
  refine ev_suc ?_
  simp only [laws_FnFactorNumbers.l2, show ((i : Int) ≤ (x.size : Int)) by omega, show (0 : Int) ≤ (i : Int) by omega, show ((i : Int) < ((numF x (x.size + 1) 0).length : Int)) by omega, if_true, e1, e2,
   show ¬ (((fac x i).length : Int) < 1) by omega, show ¬ (((fac x i).length : Int) > (x.size : Int) - i + 1) by omega, if_false, wrap_succ (i := i) (by omega)]
  exact ih (i + 1) (by omega)

theorem j4_ev {c : List Int} (hc : okC c) : Ev (fun k => laws_FnFactorNumbers.j4 k c) true := by
 obtain ⟨x, h1, h2⟩ := drawComplexity_ok hc
 obtain ⟨a1, a2⟩ := complexityOf_ev x h2
 obtain ⟨r, b0, b1, b2⟩ := countFactors_ev x h2
 refine ev_suc ?_
 simp only [laws_FnFactorNumbers.j4]
 refine ev_bnd h1 (ev_bnd a2 (ev_bnd a1 (ev_bnd b2 (ev_bnd b1 ?_))))
 by_cases h0 : isW x = true
 ·
  have hs := isW_size h0
  have hl := numF_length x (x.size + 1) 0
  rw [b0 h0]
  simp only [h0, if_true]
  refine ev_bnd (like_ev _ (by omega)) ?_
  simp only [if_true, bne_false]
  refine ev_suc ?_
  simp only [laws_FnFactorNumbers.j5, Bool.false_eq_true, if_false, if_true]
  refine ev_bnd (sum_ev _ (by omega) (numF_mem x hs _ _)) ?_
  have e1 : wrap64 ((x.size : Int) + 1) = ((x.size + 1 : Nat) : Int) := wrap_succ (by omega)
  simp only [if_true, e1, hl, bne_false]
  refine ev_suc ?_
  simp only [laws_FnFactorNumbers.j6, Bool.false_eq_true, if_false]
  exact l2_ev hc h0 (x.size + 1) 0 (by omega)
 ·
  simp only [h0, if_false, if_true]
  refine ev_bnd (like_ev [] (by simp)) ?_
  simp only [if_true]
  have key : ∀ s : Int, Ev (fun k => laws_FnFactorNumbers.j5 k c x [] 1 s false) true := fun s => by
   refine ev_suc ?_
   simp only [laws_FnFactorNumbers.j5, Bool.false_eq_true, if_false, show ¬ ((1 : Int) = 0) by omega]
   exact eq_ev hc
  simp only [bne_false]
  exact key _

theorem l1_ev {c : List Int} (hc : okC c) {w : ByteArray} (hw : w.size ≤ 60) (n : Nat) : ∀ (d i : Nat), i + d = (fac w n).length →
  Ev (fun k => laws_FnFactorNumbers.l1 k c (spc w n true) (fac w n) (lvsL w n (fac w (n + 1)).length) ((((fac w n).take i).countP fun x => decide (2 ≤ lvs w n (fac w (n + 1)).length x) : Nat) : Int) (i : Int)) true := by
 have hl := fac_length_le w n
 have hll : (lvsL w n (fac w (n + 1)).length).length = (fac w n).length := by simp [lvsL]
 intro d
 induction d with
 | zero =>
  intro i hi
  rw [List.take_of_length_le (by omega), ← spc_count]
  refine ev_suc ?_
  simp only [laws_FnFactorNumbers.l1, show ¬ ((i : Int) < ((fac w n).length : Int)) by omega, if_false, if_true]
  exact j4_ev hc
 | succ d ih =>
  intro i hi
  have hil : i < (fac w n).length := by omega
  have hnext := ih (i + 1) (by omega)
  have hcl : ((fac w n).take i).countP (fun x => decide (2 ≤ lvs w n (fac w (n + 1)).length x)) ≤ i := by
   have := List.countP_le_length (p := fun x => decide (2 ≤ lvs w n (fac w (n + 1)).length x)) (l := (fac w n).take i)
   rw [List.length_take] at this; omega
  have er : rd (lvsL w n (fac w (n + 1)).length) (i : Int) = (lvs w n (fac w (n + 1)).length (fac w n)[i] : Int) := by
   rw [rd_nat _ _ (by omega)]; simp [lvsL]
  have ew : wrap64 (((((fac w n).take i).countP fun x => decide (2 ≤ lvs w n (fac w (n + 1)).length x) : Nat) : Int) + 1) = (((((fac w n).take i).countP fun x => decide (2 ≤ lvs w n (fac w (n + 1)).length x)) + 1 : Nat) : Int) := wrap_succ (by omega)
  rw [List.take_succ_eq_append_getElem hil, List.countP_append, List.countP_singleton] at hnext
  refine ev_suc ?_
  simp only [laws_FnFactorNumbers.l1, show ((i : Int) < ((fac w n).length : Int)) by omega, show (0 : Int) ≤ (i : Int) by omega, show ((i : Int) < ((lvsL w n (fac w (n + 1)).length).length : Int)) by omega, if_true, er, wrap_succ (i := i) (by omega), ew]
  by_cases g : 2 ≤ lvs w n (fac w (n + 1)).length (fac w n)[i]
  ·
   rw [decide_eq_true g, if_pos rfl] at hnext
   simp only [show ((lvs w n (fac w (n + 1)).length (fac w n)[i] : Nat) : Int) > 1 by omega, if_true]
   exact hnext
  ·
   rw [decide_eq_false g, if_neg (by simp), Nat.add_zero] at hnext
   simp only [show ¬ ((lvs w n (fac w (n + 1)).length (fac w n)[i] : Nat) : Int) > 1 by omega, if_false]
   exact hnext

theorem l0_ev {c : List Int} (hc : okC c) {w : ByteArray} (hw : w.size ≤ 60) (n : Nat) : ∀ (d i : Nat), i + d = (fac w (n + 1)).length →
  Ev (fun k => laws_FnFactorNumbers.l0 k c (spc w n true) ((fac w (n + 1)).map (edgeOf (fac w n) n)) (fac w n) (lvsL w n i) (i : Int)) true := by
 have hl := fac_length_le w n
 have hl2 := fac_length_le w (n + 1)
 have hml : ((fac w (n + 1)).map (edgeOf (fac w n) n)).length = (fac w (n + 1)).length := List.length_map ..
 intro d
 induction d with
 | zero =>
  intro i hi
  obtain rfl : i = (fac w (n + 1)).length := by omega
  have h := l1_ev hc hw n (fac w n).length 0 (by omega)
  refine ev_suc ?_
  simp only [laws_FnFactorNumbers.l0, hml, show ¬ (((fac w (n + 1)).length : Int) < ((fac w (n + 1)).length : Int)) by omega, if_false]
  exact h
 | succ d ih =>
  intro i hi
  have hil : i < (fac w (n + 1)).length := by omega
  obtain ⟨u1, u2, u3⟩ := fac_succ w n _ (List.getElem_mem hil)
  obtain ⟨p1, p2⟩ := plcOf_spec (fac w n) _ u2
  obtain ⟨q1, q2⟩ := plcOf_spec (fac w n) _ u3
  have hll : (lvsL w n i).length = (fac w n).length := by simp [lvsL]
  have er : rd_L5 ((fac w (n + 1)).map (edgeOf (fac w n) n)) (i : Int) = [((plcOf (fac w n) ((fac w (n + 1))[i].extract 0 n) : Nat) : Int), ((plcOf (fac w n) ((fac w (n + 1))[i].extract 1 (fac w (n + 1))[i].size) : Nat) : Int)] := by
   rw [rdL_nat _ _ (by omega), List.getElem_map]; rfl
  have hset := lvs_set w n i hil _ p1 (by rw [p2]; simp [cutF])
  have hnext := ih (i + 1) (by omega)
  clear p2 q2 u1 u2 u3
  generalize plcOf (fac w n) ((fac w (n + 1))[i].extract 0 n) = a at p1 hset er
  generalize plcOf (fac w n) ((fac w (n + 1))[i].extract 1 (fac w (n + 1))[i].size) = b at q1 er
  have hle := lvs_le w n i (fac w n)[a]
  have r0 : rd [(a : Int), (b : Int)] 0 = (a : Int) := rfl
  have r1 : rd [(a : Int), (b : Int)] 1 = (b : Int) := rfl
  have r2 : (([(a : Int), (b : Int)].length : Nat) : Int) = 2 := rfl
  have rb : rd (lvsL w n i) (a : Int) = (lvs w n i (fac w n)[a] : Int) := by rw [rd_nat _ _ (by omega)]; simp [lvsL]
  have ws : wrap64 ((lvs w n i (fac w n)[a] : Int) + 1) = (lvs w n i (fac w n)[a] : Int) + 1 := wrap_id (by omega) (by omega)
  refine ev_suc ?_
  simp only [laws_FnFactorNumbers.l0, hml, show ((i : Int) < ((fac w (n + 1)).length : Int)) by omega, show (0 : Int) ≤ (i : Int) by omega, if_true, er, r2, r0, r1, show (0 : Int) < 2 by decide, show (1 : Int) < 2 by decide,
   show ¬ ((a : Int) < 0) by omega, show ¬ ((b : Int) < 0) by omega, show ¬ ((a : Int) ≥ ((fac w n).length : Int)) by omega, show ¬ ((b : Int) ≥ ((fac w n).length : Int)) by omega, if_false, show (0 : Int) ≤ (a : Int) by omega, show (a : Int) < ((lvsL w n i).length : Int) by omega, rb, ws, Int.toNat_natCast, hset, wrap_succ (i := i) (by omega)]
  exact hnext

theorem j1_ev {c : List Int} (hc : okC c) {w : ByteArray} (hw : w.size ≤ 60) (n : Nat) : Ev (fun k => laws_FnFactorNumbers.j1 k c (spc w n true) ((fac w (n + 1)).map (edgeOf (fac w n) n)) (fac w n) false) true := by
 have hl := fac_length_le w n
 have h := l0_ev hc hw n (fac w (n + 1)).length 0 (by omega)
 rw [lvs_zero] at h
 refine ev_suc ?_
 simp only [laws_FnFactorNumbers.j1, Bool.false_eq_true, if_false, show (0 : Int) ≤ ((fac w n).length : Int) by omega, Int.toNat_natCast, show (fac w n).length ≤ 35184372088832 by omega, if_true]
 exact h

theorem byte_ok {x : Int} (h : (Lit.int .u8 x).wf = true) : 0 ≤ x ∧ x ≤ 255 := by
 have e1 : IntKind.u8.min = 0 := by decide
 have e2 : IntKind.u8.max = 255 := by decide
 simp [Lit.wf] at h
 omega

theorem FnFactorNumbers : laws_FnFactorNumbers.Pure := by
 intro c hc1 hc2 hc3
 refine ev_get ?_
 unfold laws_FnFactorNumbers.f laws_big.f
 simp only [Option.bind_some]
 by_cases hbig : (c.length : Int) > 4096
 ·
  have e : decide ((c.length : Int) > 4096) = true := decide_eq_true hbig
  simp only [e, if_true]; exact ev_of rfl
 have e : decide ((c.length : Int) > 4096) = false := decide_eq_false hbig
 simp only [e, Bool.false_eq_true, if_false]
 have hc : okC c := ⟨by omega, fun x hx => byte_ok (hc3 x hx)⟩
 obtain ⟨w, m, h1, h2⟩ := drawBispecial_ok hc
 obtain ⟨a1, a2⟩ := bispecial_ev w m h2
 obtain ⟨b1, b2⟩ := right_ev w m h2
 obtain ⟨d1, d2⟩ := left_ev w m h2
 obtain ⟨f1, f2⟩ := edges_ev w m h2
 obtain ⟨r, g0, g1, g2⟩ := cycles_ev w m h2
 refine ev_bnd h1 (ev_bnd a2 (ev_bnd a1 (ev_bnd b2 (ev_bnd b1 (ev_bnd d2 (ev_bnd d1 (ev_bnd f2 (ev_bnd f1 (ev_bnd g2 (ev_bnd g1 ?_))))))))))
 by_cases h0 : codeW (inR m 0 60) [w] = 0
 ·
  obtain ⟨hw, n, rfl, hn⟩ := codL_zero h0
  have hs := isW_size hw
  obtain ⟨k1, k2⟩ := g0 h0 n rfl
  have q1 := bis_right w n
  have q2 := bis_left w n
  have q3 := spc_length w n true
  have q4 := spc_length w n false
  have q5 := fac_length_le w n
  have q6 := fac_length_le w (n + 1)
  have hml : ((fac w (n + 1)).map (edgeOf (fac w n) n)).length = (fac w (n + 1)).length := List.length_map ..
  have s1 := words5_ev (bis w n) (by omega)
  have s2 := words5_ev (spc w n true) (by omega)
  have s3 := words5_ev (spc w n false) (by omega)
  have s4 := rows5_ev ((fac w (n + 1)).map (edgeOf (fac w n) n)) (by omega) (fun x hx => by
   obtain ⟨u, _, rfl⟩ := List.mem_map.1 hx
   rfl)
  have s5 := factorsOf_ev hw hn
  have s6 := j1_ev hc hs n
  have t1 : ¬ (((bis w n).length : Int) > ((spc w n true).length : Int)) := by omega
  have t2 : ¬ (((bis w n).length : Int) > ((spc w n false).length : Int)) := by omega
  have t3 : ((fac w n).length : Int) > 0 → r.1 = wrap64 (wrap64 (((fac w (n + 1)).length : Int) - ((fac w n).length : Int)) + 1) := fun h => by
   have := k2 (by omega)
   rw [wrap_id (x := ((fac w (n + 1)).length : Int) - _) (by omega) (by omega), wrap_id (by omega) (by omega)]
   exact this
  simp only [h0, if_true, Int.toNat_natCast]
  refine ev_bnd s1 ?_
  simp only [if_true]
  refine ev_bnd s2 ?_
  simp only [if_true]
  refine ev_bnd s3 ?_
  simp only [if_true]
  refine ev_bnd s4 ?_
  simp only [if_true, bne_false]
  refine ev_suc ?_
  simp only [laws_FnFactorNumbers.j0, Bool.false_eq_true, if_false, if_true]
  refine ev_bnd s5 ?_
  simp only [if_true, hml]
  by_cases hp : ((fac w n).length : Int) > 0
  ·
   have t4 := t3 hp
   rw [← t4]
   simp only [hp, if_true, t1, if_false]
   rw [decide_eq_false t2]
   exact s6
  ·
   simp only [hp, if_false, t1]
   rw [decide_eq_false t2]
   exact s6
 ·
  have z1 := words5_ev [] (by simp)
  have z2 := rows5_ev [] (by simp) (fun x hx => by cases hx)
  simp only [h0, if_false, if_true]
  refine ev_bnd z1 ?_
  simp only [if_true]
  refine ev_bnd z1 ?_
  simp only [if_true]
  refine ev_bnd z1 ?_
  simp only [if_true]
  refine ev_bnd z2 ?_
  simp only [if_true, bne_false]
  refine ev_suc ?_
  simp only [laws_FnFactorNumbers.j0, Bool.false_eq_true, if_false, h0]
  exact j4_ev hc

end Go.Proofs.YtgfnkdoennbipaaGreat.Pure
