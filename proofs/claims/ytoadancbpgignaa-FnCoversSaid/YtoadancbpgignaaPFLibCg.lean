/- Growing a word by its cover: the program and the reference come to the same, and what comes out is covered. -/
import Derived.Test.YtoadancbpgignaaPFLibCa
import Derived.Test.YtoadancbpgignaaPFx7
import Derived.Test.YtoadancbpgignaaPFx3
namespace Go.Proofs.Ytoadancbpgignaa.PF
open Go.RowKit Go.Proofs.YtoadancbpgignaaW.PrintWords Go.Proofs.YtoadancbpgignaaW.PrintLast Go.Proofs.YtoadancbpgignaaW.PrintMore
set_option linter.unusedVariables false
set_option linter.unusedSimpArgs false
set_option maxRecDepth 20000

theorem nats_of (n : Nat) : ∀ l : List Int, l.all (inR n) = true → ∃ m : List Nat, l = m.map (fun x : Nat => (x : Int)) ∧ (1 ≤ n → ∀ x ∈ m, x < n)
 | [], _ => ⟨[], rfl, fun _ x hx => by cases hx⟩
 | y :: l, h => by
  rw [List.all_cons, Bool.and_eq_true] at h
  obtain ⟨m, hm, hm2⟩ := nats_of n l h.2
  have hy := h.1
  simp only [inR, Bool.and_eq_true, decide_eq_true_eq] at hy
  refine ⟨y.toNat :: m, by rw [List.map_cons, ← hm, Int.toNat_of_nonneg hy.1], fun hn x hx => ?_⟩
  rcases List.mem_cons.1 hx with rfl | hx
  ·
   omega
  ·
   exact hm2 hn x hx

theorem l09CodeG_ev (u : ByteArray) (hu : u.size ≤ 4000000000000000000) : Ev (fun k => spec_l09Code.f k ⟨#[]⟩ [u]) (if isW u = true then (if u.size = 0 then 2 else 0) else 1) := by
 unfold spec_l09Code.f
 have h1 := l01Is_ev ⟨#[]⟩ (by show 0 ≤ _; omega)
 rw [show isW ⟨#[]⟩ = true from rfl] at h1
 refine ev_bnd h1 ?_
 simp only [if_true]
 refine ev_suc ?_
 simp only [spec_l09Code.l0, List.length_cons, List.length_nil, show (0 : Int) < ((0 + 1 : Nat) : Int) by omega, if_true, show (0 : Int) ≤ 0 by omega, show rdOf ByteArray.empty [u] 0 = u from rfl]
 refine ev_bnd (l01Is_ev u (by omega)) ?_
 by_cases h : isW u = true
 ·
  simp only [h, if_true, show wrap64 (0 + 1) = 1 from by unfold wrap64; omega]
  refine ev_suc ?_
  simp only [spec_l09Code.l0, List.length_cons, List.length_nil, show ¬ (1 : Int) < ((0 + 1 : Nat) : Int) by omega, if_false]
  refine ev_suc ?_
  simp only [spec_l09Code.l1, List.length_cons, List.length_nil, show (0 : Int) < ((0 + 1 : Nat) : Int) by omega, if_true, show (0 : Int) ≤ 0 by omega, show rdOf ByteArray.empty [u] 0 = u from rfl]
  by_cases hz : u.size = 0
  ·
   simp only [(empty_iff u).2 hz, hz, if_true]; exact ev_of rfl
  ·
   have hz' : ¬ u.toList = ([] : List UInt8) := fun e => hz ((empty_iff u).1 e)
   simp only [hz', hz, if_false, show wrap64 (0 + 1) = 1 from by unfold wrap64; omega]
   refine ev_suc ?_
   simp only [spec_l09Code.l1, List.length_cons, List.length_nil, show ¬ (1 : Int) < ((0 + 1 : Nat) : Int) by omega, if_false]
   exact ev_of rfl
 ·
  simp only [h, if_false]; exact ev_of rfl

theorem grow_good {u : ByteArray} (h0 : isW u = true) (hz : ¬ u.size = 0) (m : List Nat) (hm : ∀ x ∈ m, x < u.size) (h : (grow u m).2 = 0) : isC (grow u m).1 u = true ∧ isW (grow u m).1 = true := by
 unfold grow at h ⊢
 by_cases hb : m.all (bordG u) = true
 ·
  rw [if_pos hb] at h ⊢
  by_cases hbig : u.size + totL u.size m > 60
  ·
   rw [if_pos hbig] at h; exact absurd h (by decide)
  ·
   rw [if_neg hbig]
   obtain ⟨h1, h2⟩ := bldL_word (u := u) m u
   have hl := (isW_def u).1 h0
   refine ⟨bldL_ok m u hm hb (isC_self u) ⟨(⟨#[]⟩ : ByteArray), ba_ext (by rw [ByteArray.data_append]; simp)⟩, (isW_def _).2 ⟨?_, h2 hl.2 hl.2⟩⟩
   show (bldL u m u).size ≤ 60
   omega
 ·
  rw [if_neg hb] at h; exact absurd h (by decide)

theorem grow_ev (u : ByteArray) (l : List Int) (hu : u.size ≤ 100000) (hll : l.length ≤ 100) : ∃ r : ByteArray × Int, Ev (fun k => spec_GrowByCover.f k u l) r ∧ Ev (fun k => impl_GrowByCover.f k u l) r ∧ (r.2 = 0 → isW u = true ∧ 0 < u.size ∧ isC r.1 u = true ∧ isW r.1 = true) := by
 unfold spec_GrowByCover.f impl_GrowByCover.f
 have hcode := l09CodeG_ev u (by omega)
 by_cases h0 : isW u = true
 ·
  have hs := isW_size h0
  have hg : ∀ k, impl_wordCode.f k (impl_GrowByCover_1.f k u l) [u] = some (codeW (decide (u.size ≠ 0) && l.all (inR u.size)) [u]) := fun k => by rw [grow1_f u hs l k, wordCode_f]
  simp only [hg, Option.bind_some, impl_size.f]
  rw [if_pos h0] at hcode
  have hall : ([u] : List ByteArray).all isW = true := by simp [h0]
  by_cases hz : u.size = 0
  ·
   rw [if_pos hz] at hcode
   have hc : codeW (decide (u.size ≠ 0) && l.all (inR u.size)) [u] = 2 := by unfold codeW; rw [if_pos hall, decide_eq_false (by simp [hz]), Bool.false_and, if_neg (by decide)]
   refine ⟨(⟨#[]⟩, 2), ev_bnd hcode ?_, ?_, fun h => absurd h (by decide)⟩
   ·
    simp only [show ¬ (2 : Int) = 0 by omega, if_false]; exact ev_of rfl
   ·
    simp only [hc, show ¬ (2 : Int) = 0 by omega, if_false]; exact ev_of rfl
  ·
   rw [if_neg hz] at hcode
   cases hr : l.all (inR u.size) with
   | false =>
    have hc : codeW (decide (u.size ≠ 0) && l.all (inR u.size)) [u] = 2 := by unfold codeW; rw [if_pos hall, hr, Bool.and_false, if_neg (by decide)]
    rw [hr] at hc
    refine ⟨(⟨#[]⟩, 2), ev_bnd hcode ?_, ?_, fun h => absurd h (by decide)⟩
    ·
     simp only [if_true]
     refine ⟨l.length + 10, fun k hk => ?_⟩
     have h := spec_g0 u hs l (by omega) 0 (⟨#[]⟩, 0) (fun h => by rw [hr] at h; cases h) (.inl hr) l.length k 0 (by omega) rfl (by omega)
     rw [List.drop_zero, hr, if_neg (by decide)] at h
     exact h
    ·
     simp only [hc, show ¬ (2 : Int) = 0 by omega, if_false]; exact ev_of rfl
   | true =>
    obtain ⟨m, hm, hm2⟩ := nats_of u.size l hr
    have hml : m.length = l.length := by rw [hm, List.length_map]
    have hmx := hm2 (by omega)
    have hc : codeW (decide (u.size ≠ 0) && true) [u] = 0 := by unfold codeW; rw [if_pos hall, decide_eq_true hz, Bool.true_and, if_pos rfl]
    refine ⟨grow u m, ev_bnd hcode ?_, ?_, fun h => ⟨h0, by omega, grow_good h0 hz m hmx h⟩⟩
    ·
     simp only [if_true]
     refine ⟨4 * l.length + 40, fun k hk => ?_⟩
     have h := spec_g0 u hs l (by omega) (2 * m.length + 10) (grow u m) (fun _ k hk => by rw [hm]; exact spec_grow u hs m (by omega) hmx k hk) (.inr hr) l.length k 0 (by omega) rfl (by omega)
     rw [List.drop_zero, hr, if_pos rfl] at h
     exact h
    ·
     simp only [hc, if_true]
     refine ⟨4 * l.length + 40, fun k hk => ?_⟩
     have h := impl_grow u hs m (by omega) hmx k (by omega)
     rw [← hm] at h
     exact h
 ·
  have hc : ∀ k, impl_wordCode.f k (impl_GrowByCover_1.f k u l) [u] = some 1 := fun k => by
   unfold impl_wordCode.f
   rw [if_neg (by simp [h0])]
  rw [if_neg h0] at hcode
  simp only [hc, Option.bind_some, show ¬ (1 : Int) = 0 by omega, if_false]
  refine ⟨(⟨#[]⟩, 1), ev_bnd hcode ?_, ev_of rfl, fun h => absurd h (by decide)⟩
  simp only [show ¬ (1 : Int) = 0 by omega, if_false]; exact ev_of rfl

end Go.Proofs.Ytoadancbpgignaa.PF
