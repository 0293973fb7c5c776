/- The law Covers answers true for all codes: covers, least covers, cover lengths, seeds, borders and grown words are as it says. -/
import Derived.Test.YtoadancbpgignaaPFLibCg
import Derived.Test.YtoadancbpgignaaPFLibDc
import Derived.Test.YtoadancbpgignaaPFx8
namespace Go.Proofs.Ytoadancbpgignaa.Pure
open Go.RowKit Go.Proofs.Ytoadancbpgignaa.PF Go.Proofs.YtoadancbpgignaaW.PrintWords Go.Proofs.YtoadancbpgignaaW.PrintLast
set_option linter.unusedSimpArgs false
set_option linter.unusedVariables false
set_option maxRecDepth 20000

theorem j7_ev {c : List Int} (hc : okC c) : Ev (fun k => laws_FnCovers.j7 k c) true := by
 obtain ⟨w, u, h1, h2, h3⟩ := drawIsCover_ok hc
 obtain ⟨a1, a2⟩ := isCover_ev w u h2 h3
 obtain ⟨b1, b2⟩ := uncov_ev w u h2 h3
 refine ev_suc ?_
 simp only [laws_FnCovers.j7]
 refine ev_bnd h1 (ev_bnd a2 (ev_bnd a1 (ev_bnd b2 (ev_bnd b1 ?_))))
 by_cases h0 : cod2 w u = 0
 ·
  have hlen : (unc (cov w u) 0).length ≤ 4000000000000 := by
   have g1 := unc_length (cov w u) 0
   have g2 := cov_length w u
   omega
  simp only [h0, if_true, show ∀ b : Bool, (b == b) = true from fun b => by cases b <;> rfl]
  refine ev_bnd (like_ev _ hlen) ?_
  simp only [if_true]
  refine ev_of ?_
  congr 1
  have hn := unc_nil (cov w u) 0
  by_cases g : isC w u = true
  ·
   have : unc (cov w u) 0 = [] := hn.2 g
   rw [g, this]; rfl
  ·
   have g' : isC w u = false := by simpa using g
   have : unc (cov w u) 0 ≠ [] := fun e => g (hn.1 e)
   have hp : 0 < (unc (cov w u) 0).length := List.length_pos_iff.2 this
   rw [g', show (((unc (cov w u) 0).length : Int) == 0) = false from beq_eq_false_iff_ne.2 (by omega)]; rfl
 ·
  simp only [h0, if_false, if_true, show ∀ b : Bool, (b == b) = true from fun b => by cases b <;> rfl]
  refine ev_bnd (like_ev [] (by simp)) ?_
  simp only [if_true]
  exact ev_of rfl

theorem j5_ev {c : List Int} (hc : okC c) : Ev (fun k => laws_FnCovers.j5 k c) true := by
 obtain ⟨u, l, h1, h2, h3⟩ := drawGrow_ok hc
 obtain ⟨r, a1, a2, a3⟩ := grow_ev u l h2 h3
 refine ev_suc ?_
 simp only [laws_FnCovers.j5]
 refine ev_bnd h1 (ev_bnd a2 (ev_bnd a1 ?_))
 have e5 : ∀ l : List UInt8, (l != l) = false := fun l => bne_false l
 simp only [if_true, e5]
 refine ev_suc ?_
 simp only [laws_FnCovers.j6, Bool.false_eq_true, if_false]
 by_cases h0 : r.2 = 0
 ·
  obtain ⟨g1, g2, g3, g4⟩ := a3 h0
  have hs := isW_size g4
  simp only [h0, if_true]
  have hco := cod2_of g4 g1 g2
  have := (isCover_ev r.1 u (by omega) h2).2
  rw [if_pos hco, g3] at this
  refine ev_bnd this ?_
  simp only [if_true]
  exact j7_ev hc
 ·
  simp only [h0, if_false]
  exact j7_ev hc

theorem l0_ev {c : List Int} (hc : okC c) {w : ByteArray} (hw : isW w = true) (h0 : 0 < w.size) : ∀ (d i : Nat), i + d = (cvs w).length → Ev (fun k => laws_FnCovers.l0 k c w (cvs w) (i : Int)) true := by
 have hs := isW_size hw
 have hcl := cvs_length w
 intro d
 induction d with
 | zero =>
  intro i hi
  refine ev_suc ?_
  simp only [laws_FnCovers.l0, show ¬ ((i : Int) < ((cvs w).length : Int)) by omega, if_false]
  exact j5_ev hc
 | succ d ih =>
  intro i hi
  have hil : i < (cvs w).length := by omega
  obtain ⟨m, m1, m2, hu, hC⟩ := cvs_mem (List.getElem_mem hil)
  have er : rdOf ByteArray.empty (cvs w) (i : Int) = (cvs w)[i] := rdOf_nat _ _ i hil
  generalize (cvs w)[i] = u at hu hC er
  have hus : u.size = m := by rw [hu]; exact size_pre' w m m2
  have hu1 : isW u = true := by rw [hu]; exact isW_extract hw _ _
  have hco : cod2 w u = 0 := cod2_of hw hu1 (by omega)
  have a1 := (isCover_ev w u (by omega) (by omega)).2
  have a2 := (uncov_ev w u (by omega) (by omega)).2
  have a3 := isSeed_ev hco (by omega)
  have hun : unc (cov w u) 0 = [] := (unc_nil _ _).2 hC
  rw [if_pos hco, hC] at a1
  rw [if_pos hco, hun] at a2
  rw [isC_isSd hC] at a3
  have hnext : Ev (fun k => laws_FnCovers.l0 k c w (cvs w) (wrap64 ((i : Int) + 1))) true := by
   rw [wrap_succ (by omega)]; exact ih (i + 1) (by omega)
  refine ev_suc ?_
  simp only [laws_FnCovers.l0, show ((i : Int) < ((cvs w).length : Int)) by omega, show (0 : Int) ≤ (i : Int) by omega, if_true, er]
  refine ev_bnd a1 (ev_bnd a2 (ev_bnd a3 ?_))
  simp only [if_true, List.length_nil, show ((0 : Nat) : Int) = 0 from rfl, Bool.not_true]
  refine ev_suc ?_
  simp only [laws_FnCovers.j4, Bool.false_eq_true, if_false, show ((i : Int) < ((cvs w).length : Int)) by omega, show (0 : Int) ≤ (i : Int) by omega, if_true, er]
  obtain ⟨r, b1, b2, b3⟩ := borders_ev hw
  refine ev_bnd b1 ?_
  simp only [if_true]
  by_cases he : u.toList = w.toList
  ·
   simp only [he, if_true]; exact hnext
  ·
   simp only [he, if_false]
   have hne : m ≠ w.size := fun e => he (by rw [hu, e, extract_all])
   obtain ⟨c1, c2⟩ := cover_end hC h0
   have hper : perB w (w.size - m) = true := by
    unfold perB
    rw [decide_eq_true_eq, show w.size - (w.size - m) = m by omega]
    have e1 : (w.extract (w.size - m) w.size).toList = (w.extract 0 m).toList := by rw [← hus, c2, hus, ← hu]
    rw [tl_extract, tl_extract, List.drop_zero, List.take_of_length_le (by rw [tl_len]; exact Nat.le_refl _)] at e1
    exact e1
   have hin := b3 (w.size - m) hper (by omega) (by omega)
   have e2 : ((w.size : Int) - ((w.size - m : Nat) : Int)) = (u.size : Int) := by omega
   rw [e2] at hin
   refine ev_bnd (has_ev r _ (by omega) hin) ?_
   simp only [if_true]; exact hnext

theorem byte_ok {x : Int} (h : (Lit.int .u8 x).wf = true) : 0 ≤ x ∧ x ≤ 255 := by
 have e1 : IntKind.u8.min = 0 := by decide
 have e2 : IntKind.u8.max = 255 := by decide
 simp [Lit.wf] at h
 omega

theorem FnCovers : laws_FnCovers.Pure := by
 intro c hc1 hc2 hc3
 refine ev_get ?_
 unfold laws_FnCovers.f laws_big.f
 simp only [Option.bind_some]
 by_cases hbig : (c.length : Int) > 4096
 ·
  have e : decide ((c.length : Int) > 4096) = true := decide_eq_true hbig
  simp only [e, if_true]; exact ev_of rfl
 have e : decide ((c.length : Int) > 4096) = false := decide_eq_false hbig
 simp only [e, Bool.false_eq_true, if_false]
 have hc : okC c := ⟨by omega, fun x hx => byte_ok (hc3 x hx)⟩
 obtain ⟨w, hd, hws⟩ := drawCovers_ok hc
 obtain ⟨a1, a2⟩ := coversOf_ev w hws
 obtain ⟨r2, b0, b1, b2⟩ := leastCover_ev w hws
 obtain ⟨r3, c00, c0, c1, c2⟩ := coverLengths_ev w hws
 obtain ⟨r4, d0, d1, d2⟩ := super_ev w hws
 refine ev_bnd hd (ev_bnd a2 (ev_bnd a1 (ev_bnd b2 (ev_bnd b1 (ev_bnd c2 (ev_bnd c1 (ev_bnd d2 (ev_bnd d1 ?_))))))))
 have e5 : ∀ b : Bool, (b != b) = false := fun b => by cases b <;> rfl
 have hcl := cvs_length w
 by_cases h0 : isW w = true
 ·
  have hs := isW_size h0
  simp only [h0, if_true, e5]
  refine ev_bnd (words5_ev (cvs w) (by omega)) ?_
  simp only [if_true]
  refine ev_bnd (like_ev r3.1 (by omega)) ?_
  simp only [if_true]
  refine ev_suc ?_
  simp only [laws_FnCovers.j0, Bool.false_eq_true, if_false, if_true]
  refine ev_suc ?_
  by_cases hz : 0 < w.size
  ·
   have ez : decide ((w.size : Int) > 0) = true := decide_eq_true (by omega)
   obtain ⟨q, l, l', hq, f1, f2⟩ := cvs_form w hz
   have hr2 := b0 h0 hz
   obtain ⟨hr3, hr3v⟩ := c0 h0 hz
   have hr4 := d0 h0
   subst hr2
   subst hr4
   have hfirst : rdOf ByteArray.empty (cvs w) 0 = w.extract 0 q := by rw [f1]; rfl
   have hlen : (cvs w).length = l'.length + 1 := by rw [f2]; simp
   have hlastix : wrap64 (((cvs w).length : Int) - 1) = ((l'.length : Nat) : Int) := by rw [wrap_id (by omega) (by omega)]; omega
   have hlast : rdOf ByteArray.empty (cvs w) ((l'.length : Nat) : Int) = w := by
    rw [rdOf_nat _ _ l'.length (by omega)]; simp [f2]
   have hwn : wrap64 ((w.size : Int) - 1) = ((w.size - 1 : Nat) : Int) := by rw [wrap_id (by omega) (by omega)]; omega
   have hlw : isW (w.extract 0 q) = true := isW_extract h0 _ _
   have hls := isW_size hlw
   obtain ⟨r5, k0, k1, k2⟩ := super_ev (w.extract 0 q) (by omega)
   have hr5 := k0 hlw
   rw [cvs_least hq] at hr5
   rw [hr5] at k2
   simp only [laws_FnCovers.j1, ez, if_true, hfirst]
   refine ev_bnd k2 ?_
   have halone : ((((cvs w).length : Int) == 1) != ((w.extract 0 q).toList == w.toList)) = false := by
    by_cases g : w.extract 0 q = w
    ·
     rw [show (((cvs w).length : Int) == 1) = true from beq_iff_eq.2 ((cvs_alone hz hq).2 g), g]; simp
    ·
     have g1 : (((cvs w).length : Int) == 1) = false := beq_eq_false_iff_ne.2 fun e => g ((cvs_alone hz hq).1 e)
     have g2 : ((w.extract 0 q).toList == w.toList) = false := beq_eq_false_iff_ne.2 fun e => g (ba_inj.1 e)
     rw [g1, g2]; rfl
   have hl1 : (([w.extract 0 q].length : Int) == 1) = true := rfl
   have hrd : (rd r3.1 ((w.size - 1 : Nat) : Int) != ((w.extract 0 q).size : Int)) = false := by
    rw [hr3v, hfirst]; exact bne_false _
   simp only [if_true, hl1, show ¬ (((cvs w).length : Int) < 1) by omega, if_false, show (0 : Int) < ((cvs w).length : Int) by omega, hlastix, show (0 : Int) ≤ ((l'.length : Nat) : Int) by omega, show ((l'.length : Nat) : Int) < ((cvs w).length : Int) by omega, hlast, halone, Bool.false_eq_true, hwn, show (0 : Int) ≤ ((w.size - 1 : Nat) : Int) by omega, show ((w.size - 1 : Nat) : Int) < (r3.1.length : Int) by omega, hrd]
   refine ev_suc ?_
   simp only [laws_FnCovers.j2, Bool.false_eq_true, if_false]
   have := l0_ev hc h0 hz (cvs w).length 0 (by omega)
   exact this
  ·
   have ez : decide ((w.size : Int) > 0) = false := decide_eq_false (by omega)
   simp only [laws_FnCovers.j1, ez, Bool.false_eq_true, if_false]
   exact j5_ev hc
 ·
  simp only [h0, if_false, if_true, e5]
  refine ev_bnd (words5_ev [] (by simp)) ?_
  simp only [if_true]
  refine ev_bnd (like_ev r3.1 (by omega)) ?_
  simp only [if_true]
  refine ev_suc ?_
  simp only [laws_FnCovers.j0, Bool.false_eq_true, if_false, if_true, show ¬ ((1 : Int) = 0) by omega]
  refine ev_suc ?_
  simp only [laws_FnCovers.j1, Bool.false_eq_true, if_false]
  exact j5_ev hc

end Go.Proofs.Ytoadancbpgignaa.Pure
