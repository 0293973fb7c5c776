/- The law Seeds answers true for all codes: least seeds, best borders, two covers and seeds are as it says. -/
import Derived.Test.YtcfphjjdbccnoaaGreatPFLibSf
import Derived.Test.YtcfphjjdbccnoaaGreatPFLibDc
import Derived.Test.YtcfphjjdbccnoaaGreatPFx9
namespace Go.Proofs.YtcfphjjdbccnoaaGreat.Pure
open Go.RowKit Go.Proofs.YtcfphjjdbccnoaaGreat.PF Go.Proofs.YtcfphjjdbccnoaaGreatW.PrintWords Go.Proofs.YtcfphjjdbccnoaaGreatW.PrintLast
set_option linter.unusedSimpArgs false
set_option linter.unusedVariables false
set_option maxRecDepth 20000

theorem j5_ev {c : List Int} (hc : okC c) : Ev (fun k => laws_FnSeeds.j5 k c) true := by
 obtain ⟨w, u, h1, h2, h3⟩ := drawIsSeed_ok hc
 obtain ⟨r, a0, a1, a2⟩ := isSeed_ev2 w u h2 h3
 obtain ⟨v, m, i1, i2⟩ := drawSeedsOf_ok hc
 obtain ⟨s, b0, b1, b2, _⟩ := seedsOf_ev v m i2
 obtain ⟨x, j1, j2, j3, j4⟩ := drawTwo_ok hc
 obtain ⟨t, _, d1, d2⟩ := coveredByTwo_ev x.1 x.2.1 x.2.2 j2 j3 j4
 have e5 : ∀ b : Bool, (b != b) = false := fun b => by cases b <;> rfl
 refine ev_suc ?_
 simp only [laws_FnSeeds.j5]
 refine ev_bnd h1 (ev_bnd a2 (ev_bnd a1 (ev_bnd i1 (ev_bnd b2 (ev_bnd b1 (ev_bnd j1 (ev_bnd d2 (ev_bnd d1 ?_))))))))
 simp only [if_true, e5, Bool.false_eq_true, if_false]
 refine ev_bnd (words5_ev s.1 b0) ?_
 simp only [if_true]
 refine ev_suc ?_
 simp only [laws_FnSeeds.j6, Bool.false_eq_true, if_false]
 by_cases h0 : r.2 = 0
 ·
  obtain ⟨g1, g2, g3⟩ := a0 h0
  have g4 := isCover_ev w u
  rw [if_pos g1] at g4
  simp only [h0, if_true]
  refine ev_bnd g4 ?_
  simp only [if_true]
  by_cases g : isC w u = true
  ·
   simp only [g, if_true]
   exact ev_of (by rw [g2, isC_isSd g])
  ·
   simp only [g, if_false]; exact ev_of rfl
 ·
  simp only [h0, if_false]; exact ev_of rfl

theorem j3_ev {c : List Int} (hc : okC c) : Ev (fun k => laws_FnSeeds.j3 k c) true := by
 obtain ⟨w, m, h1, h2⟩ := drawFirstTwo_ok hc
 obtain ⟨r, a0, a1, a2, a3⟩ := firstTwo_ev w m h2
 refine ev_suc ?_
 simp only [laws_FnSeeds.j3]
 refine ev_bnd h1 (ev_bnd a3 (ev_bnd a2 ?_))
 simp only [if_true]
 refine ev_bnd (words5_ev r.1 a0) ?_
 simp only [Bool.not_true]
 refine ev_suc ?_
 simp only [laws_FnSeeds.j4, Bool.false_eq_true, if_false]
 by_cases h0 : r.2 = 0
 ·
  obtain ⟨hw, n, hn, i, j, hi, hj, hij, hr, hc2⟩ := a1 h0
  have hs := isW_size hw
  obtain ⟨f1, f2, x1, x2, f3⟩ := fac_of (List.getElem_mem hi)
  obtain ⟨g1, g2, y1, y2, g3⟩ := fac_of (List.getElem_mem hj)
  have hlt : (fac w n)[i].toList < (fac w n)[j].toList := List.pairwise_iff_getElem.1 (fac_SS w n) i j hi hj hij
  have hu : isW (fac w n)[i] = true := by rw [f3]; exact isW_extract hw _ _
  have hv : isW (fac w n)[j] = true := by rw [g3]; exact isW_extract hw _ _
  generalize (fac w n)[i] = u at hr hc2 f1 hlt hu
  generalize (fac w n)[j] = v at hr hc2 g1 hlt hv
  obtain ⟨s, b0, b1, b2⟩ := coveredByTwo_ev w u v h2 (by omega) (by omega)
  have b0 := b0 (cod3_of hw hu (by omega) hv (by omega))
  rw [b0, hc2] at b2
  have e0 : rdOf ByteArray.empty [u, v] 0 = u := rfl
  have e1 : rdOf ByteArray.empty [u, v] 1 = v := rfl
  have hl : Op.bytesLess u.toList v.toList = true := (less_iff _ _).2 hlt
  simp only [h0, if_true, hr, List.length_cons, List.length_nil, show (0 : Int) < ((0 + 1 + 1 : Nat) : Int) by decide, show (1 : Int) < ((0 + 1 + 1 : Nat) : Int) by decide, e0, e1]
  refine ev_bnd b2 ?_
  simp only [if_true, hl]
  exact j5_ev hc
 ·
  simp only [h0, if_false]; exact j5_ev hc

theorem j1_ev {c : List Int} (hc : okC c) : Ev (fun k => laws_FnSeeds.j1 k c) true := by
 obtain ⟨w, h1, h2⟩ := drawBestBorder_ok hc
 obtain ⟨r, a0, a1, a2⟩ := bestBorder_ev w h2
 refine ev_suc ?_
 simp only [laws_FnSeeds.j1]
 refine ev_bnd h1 (ev_bnd a2 (ev_bnd a1 ?_))
 simp only [if_true, bne_false]
 refine ev_suc ?_
 simp only [laws_FnSeeds.j2, Bool.false_eq_true, if_false]
 by_cases h0 : r.2.2 = 0
 ·
  obtain ⟨hw, M, hM, q, q1, q2, q3, q4, q5⟩ := a0 h0
  have hs := isW_size hw
  have hsz : r.1.size = q := by rw [q3, ByteArray.size_extract]; omega
  have hu : isW r.1 = true := by rw [q3]; exact isW_extract hw _ _
  have b1 := uncov_ev (cod2_of hw hu (by omega))
  obtain ⟨l, c1, c2, c3⟩ := borders_ev hw
  have hper : perB w (w.size - q) = true := by
   unfold perB
   rw [decide_eq_true_eq, show w.size - (w.size - q) = q by omega]
   have e1 := congrArg ByteArray.toList q4.symm
   rw [tl_extract, tl_extract, List.drop_zero, List.take_of_length_le (by rw [tl_len]; exact Nat.le_refl _)] at e1
   exact e1
  have hin := c3 (w.size - q) hper (by omega) (by omega)
  have e2 : ((w.size : Int) - ((w.size - q : Nat) : Int)) = (r.1.size : Int) := by omega
  rw [e2] at hin
  have hcnt := unc_count (cov w r.1) 0
  rw [cov_length] at hcnt
  have hwr : wrap64 (((unc (cov w r.1) 0).length : Int) + r.2.1) = (w.size : Int) := by rw [hM, wrap_id (by omega) (by omega)]; omega
  simp only [h0, if_true]
  refine ev_bnd b1 (ev_bnd c1 ?_)
  simp only [if_true, hwr]
  refine ev_bnd (has_ev l _ (by omega) hin) ?_
  simp only [if_true]
  exact j3_ev hc
 ·
  simp only [h0, if_false]; exact j3_ev hc

theorem byte_ok {x : Int} (h : (Lit.int .u8 x).wf = true) : 0 ≤ x ∧ x ≤ 255 := by
 have e1 : IntKind.u8.min = 0 := by decide
 have e2 : IntKind.u8.max = 255 := by decide
 simp [Lit.wf] at h
 omega

theorem FnSeeds : laws_FnSeeds.Pure := by
 intro c hc1 hc2 hc3
 refine ev_get ?_
 unfold laws_FnSeeds.f laws_big.f
 simp only [Option.bind_some]
 by_cases hbig : (c.length : Int) > 4096
 ·
  have e : decide ((c.length : Int) > 4096) = true := decide_eq_true hbig
  simp only [e, if_true]; exact ev_of rfl
 have e : decide ((c.length : Int) > 4096) = false := decide_eq_false hbig
 simp only [e, Bool.false_eq_true, if_false]
 have hc : okC c := ⟨by omega, fun x hx => byte_ok (hc3 x hx)⟩
 obtain ⟨w, h1, h2⟩ := drawLeastSeed_ok hc
 obtain ⟨r, a0, a1, a2⟩ := leastSeed_ev w h2
 refine ev_bnd h1 (ev_bnd a2 (ev_bnd a1 ?_))
 simp only [if_true, bne_false]
 refine ev_suc ?_
 simp only [laws_FnSeeds.j0, Bool.false_eq_true, if_false]
 by_cases h0 : r.2 = 0
 ·
  obtain ⟨hw, m, hm, hr⟩ := a0 h0
  have hs := isW_size hw
  have p1 := hm.pos
  have p2 := hm.le
  have er := rdOf_nat ByteArray.empty (sds w m) 0 hm.has
  rw [show ((0 : Nat) : Int) = 0 from rfl] at er
  have hmem : r.1 ∈ sds w m := by rw [hr, er]; exact List.getElem_mem _
  obtain ⟨g1, g2⟩ := List.mem_filter.1 hmem
  obtain ⟨g3, g4, i, j, g5⟩ := fac_of g1
  have hu : isW r.1 = true := by rw [g5]; exact isW_extract hw _ _
  have b1 := isSeed_ev (cod2_of hw hu (by omega)) (by omega : r.1.size ≤ w.size)
  rw [g2] at b1
  obtain ⟨q, q1, q2, q3, q4⟩ := leastCover_ev hw (by omega)
  have hq : m ≤ q := by
   rcases Nat.lt_or_ge q m with g | g
   ·
    exfalso
    have := hm.no q q1 g
    have hx : w.extract 0 q ∈ sds w q := List.mem_filter.2 ⟨(mem_fac w q _).2 ⟨0, by omega, by rw [Nat.zero_add]⟩, isC_isSd q3⟩
    rw [List.eq_nil_of_length_eq_zero this] at hx
    cases hx
   ·
    exact g
  have hqs : (w.extract 0 q).size = q := by rw [ByteArray.size_extract]; omega
  obtain ⟨s, d0, d1, d2, d3⟩ := seedsOf_ev w (r.1.size : Int) h2
  have d3 := d3 m (by omega) hw p1 (by omega)
  rw [d3] at d2
  have hl := hm.has
  simp only [h0, if_true]
  refine ev_bnd b1 (ev_bnd q4 (ev_bnd d2 ?_))
  simp only [if_true, show ¬ ((r.1.size : Int) > ((w.extract 0 q).size : Int)) by omega, show ¬ (((sds w m).length : Int) < 1) by omega, show (0 : Int) < ((sds w m).length : Int) by omega, if_false, ← hr]
  exact j1_ev hc
 ·
  simp only [h0, if_false]; exact j1_ev hc

end Go.Proofs.YtcfphjjdbccnoaaGreat.Pure
