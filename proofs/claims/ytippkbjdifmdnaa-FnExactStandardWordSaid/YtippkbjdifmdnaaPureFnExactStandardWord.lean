/- The program's StandardWord and the reference's StandardWord return the same word and the same code, and the program leaves the list as it was: each word is the one before it repeated, and the one before that behind it. -/
import Derived.Test.YtippkbjdifmdnaaPFLibSt
import Derived.Test.YtippkbjdifmdnaaPFLibT
import Derived.Test.YtippkbjdifmdnaaPFx10
namespace Go.Proofs.Ytippkbjdifmdnaa.Pure
open Go.RowKit Go.Proofs.Ytippkbjdifmdnaa.PF Go.Proofs.YtippkbjdifmdnaaW.PrintWords Go.Proofs.YtippkbjdifmdnaaW.PrintLast
set_option linter.unusedSimpArgs false
set_option linter.unusedVariables false
set_option maxRecDepth 20000

theorem FnExactStandardWord : laws_FnExactStandardWord.Pure := by
  intro l hl1 hl2 hl3
  refine ev_get ?_
  unfold laws_FnExactStandardWord.f
  by_cases hgl : (l.length : Int) > 1048576
  · simp only [hgl, if_true]; exact ev_of rfl
  simp only [hgl, if_false]
  have hto := toI_ev l (by omega)
  suffices h : ∃ r : ByteArray × Int, Ev (fun k => spec_StandardWord.f k l) r ∧ Ev (fun k => impl_StandardWord.f k l) r by
    obtain ⟨r, h1, h2⟩ := h
    refine ev_bnd hto (ev_bnd h1 (ev_bnd hto (ev_bnd h2 ?_)))
    simp only [if_true, bne_false]
    refine ev_suc ?_
    simp only [laws_FnExactStandardWord.j0, Bool.false_eq_true, if_false]
    refine ev_bnd hto (ev_bnd (eqI_ev l (by omega)) ?_)
    simp only [if_true]; exact ev_of rfl
  unfold spec_StandardWord.f impl_StandardWord.f
  by_cases hs : (l.length : Int) > 20
  · simp only [hs, if_true]; exact ⟨_, ev_of rfl, ev_of rfl⟩
  simp only [hs, if_false]
  have hll : l.length ≤ 20 := by omega
  have key : ∃ R : ByteArray × Int, (okL 0 l = true → ∀ k, 2200 < k → impl_StandardWord.l1 k (⟨#[98]⟩ : ByteArray) (⟨#[97]⟩ : ByteArray) l (l.length : Int) 0 = some R) ∧
      (okL 0 l = true → ∀ k, 2200 < k → ((spec_l08Standard.f k l).bind fun bt105 => (if bt105.2 = true then (some (bt105.1, 0)) else (some ((⟨#[]⟩ : ByteArray), 3)))) = some R) := by
    by_cases hok : okL 0 l = true
    · obtain ⟨m, hm, hm2⟩ := okL_nats l 0 hok
      have hml : m.length = l.length := by rw [hm, List.length_map]
      refine ⟨match stdO m (⟨#[98]⟩ : ByteArray) (⟨#[97]⟩ : ByteArray) with | some x => (x, 0) | none => (⟨#[]⟩, 3), fun _ k hk => ?_, fun _ k hk => ?_⟩
      · have h := impl_std m (by omega) hm2 m.length k 0 (⟨#[98]⟩ : ByteArray) (⟨#[97]⟩ : ByteArray) (by omega) (by show 1 ≤ 60; omega) (by show 1 ≤ 60; omega) (by omega)
        rw [List.drop_zero, ← hm, hml] at h
        exact h
      · have h := spec_std m (by omega) hm2 m.length k 0 (⟨#[98]⟩ : ByteArray) (⟨#[97]⟩ : ByteArray) (by omega) (by show 1 ≤ 60; omega) (by show 1 ≤ 60; omega) (by omega)
        rw [List.drop_zero, ← hm] at h
        unfold spec_l08Standard.f
        have h' : spec_l08Standard.l0 k l (⟨#[98]⟩ : ByteArray) (⟨#[97]⟩ : ByteArray) 0 = _ := h
        rw [h']
        cases stdO m (⟨#[98]⟩ : ByteArray) (⟨#[97]⟩ : ByteArray) <;> rfl
    · exact ⟨(⟨#[]⟩, 0), fun h => absurd h hok, fun h => absurd h hok⟩
  obtain ⟨R, hR1, hR2⟩ := key
  refine ⟨if okL 0 l = true then R else (⟨#[]⟩, 2), ⟨2300, fun k hk => ?_⟩, ⟨2300, fun k hk => ?_⟩⟩
  · exact spec_rng l hll 2200 R hR2 l.length k 0 (by omega) (fun h => h) (by omega)
  · exact impl_rng l hll 2200 R hR1 l.length k 0 (by omega) (fun h => h) (by omega)

end Go.Proofs.Ytippkbjdifmdnaa.Pure
