/- The program's ListOfStandard and the reference's ListOfStandard return the same list and the same code, and the list is its own: the shortest and first list whose standard word a word is. -/
import Derived.Test.YtippkbjdifmdnaaDoorPFLibW
import Derived.Test.YtippkbjdifmdnaaDoorPFx25
import Derived.Test.YtippkbjdifmdnaaDoorPFx3
import Derived.Test.YtippkbjdifmdnaaDoorPFx2
import Derived.Test.YtippkbjdifmdnaaDoorPFx9
namespace Go.Proofs.YtippkbjdifmdnaaDoor.Pure
open Go.RowKit Go.Proofs.YtippkbjdifmdnaaDoor.PF Go.Proofs.YtippkbjdifmdnaaDoorW.PrintWords Go.Proofs.YtippkbjdifmdnaaDoorW.PrintLast
set_option linter.unusedSimpArgs false
set_option linter.unusedVariables false
set_option maxRecDepth 20000

/-- Has a word the letters a and b alone? -/
def two (w : ByteArray) : Bool := w.data.toList.all fun b => b == 97 || b == 98
theorem dw_nil (p : UInt8 → Bool) : ∀ l : List UInt8, l.dropWhile p = [] ↔ ∀ x ∈ l, p x = true
  | [] => by simp
  | a :: l => by
    rw [List.dropWhile_cons]
    by_cases h : p a = true
    · rw [if_pos h, dw_nil p l]; simp [h]
    · rw [if_neg h]; simp [h]
theorem dw_head (p : UInt8 → Bool) : ∀ (l : List UInt8) (a : UInt8) (t : List UInt8), l.dropWhile p = a :: t → p a = false
  | [], a, t, h => by simp at h
  | b :: l, a, t, h => by
    rw [List.dropWhile_cons] at h
    by_cases g : p b = true
    · rw [if_pos g] at h; exact dw_head p l a t h
    · rw [if_neg g] at h
      injection h with h1 h2
      rw [← h1]; simpa using g
theorem trim_nil (l cs : List UInt8) : Lib.trimS l cs = [] ↔ ∀ b ∈ l, cs.contains b = true := by
  unfold Lib.trimS Lib.trimLeftS Lib.trimRightS
  rw [dw_nil]
  constructor
  · intro h b hb
    cases hd : l.reverse.dropWhile (fun x => cs.contains x) with
    | nil => exact (dw_nil _ _).1 hd b (List.mem_reverse.2 hb)
    | cons a t =>
      exfalso
      have h1 : cs.contains a = true := h a (by rw [hd]; simp)
      have h2 := dw_head _ _ a t hd
      rw [h1] at h2; cases h2
  · intro h b hb
    rw [(dw_nil _ _).2 (fun x hx => h x (List.mem_reverse.1 hx))] at hb
    cases hb
theorem isTwo_f (w : ByteArray) : impl_isTwo.f w = some (isW w && two w) := by
  unfold impl_isTwo.f impl_IsWord.f
  rw [Option.bind_some]
  cases h : isW w with
  | false => simp
  | true =>
    have hs := isW_size h
    have hc : strings_Trim.f w (⟨#[97, 98]⟩ : ByteArray) = some ⟨(Lib.trimS w.data.toList [97, 98]).toArray⟩ := by
      unfold strings_Trim.f
      rw [if_pos ⟨by omega, by decide, by decide⟩]
    rw [if_pos rfl, hc, Option.bind_some, Bool.true_and]
    congr 1
    rw [ByteArray.toList_eq]
    show ((Lib.trimS w.data.toList [97, 98]).toArray.toList == ([] : List UInt8)) = two w
    rw [List.toList_toArray, Bool.eq_iff_iff, beq_iff_eq, trim_nil]
    unfold two
    rw [List.all_eq_true]
    constructor
    · intro g b hb; have := g b hb; simpa using this
    · intro g b hb; have := g b hb; simpa using this
theorem few_loop (w : ByteArray) (hw : isW w = true) : ∀ (d k i : Nat), i + d = w.size → d < k → spec_l06Few.l0 k w 2 (i : Int) = some ((w.data.toList.drop i).all fun b => b == 97 || b == 98) := by
  have hs := isW_size hw
  have hlen : w.data.toList.length = w.size := by rw [Array.length_toList]; rfl
  intro d
  induction d with
  | zero =>
    intro k i hi hk
    obtain ⟨k, rfl⟩ : ∃ m, k = m + 1 := ⟨k - 1, by omega⟩
    rw [spec_l06Few.l0, if_neg (by omega), List.drop_eq_nil_of_le (by omega)]; rfl
  | succ d ih =>
    intro k i hi hk
    obtain ⟨k, rfl⟩ : ∃ m, k = m + 1 := ⟨k - 1, by omega⟩
    have hil : i < w.data.toList.length := by omega
    have hb : bt w (i : Int) = ((w.data.toList[i]).toNat : Int) := by
      have h' : i < w.size := by omega
      simp only [bt, Int.toNat_natCast, h', dite_true]
      rfl
    have hlet : 97 ≤ bt w (i : Int) ∧ bt w (i : Int) < 102 := by
      have hm : bt w (i : Int) ∈ bytesOf w := by
        rw [hb]; exact List.mem_map.2 ⟨_, List.getElem_mem hil, rfl⟩
      simp only [isW, Bool.and_eq_true, List.all_eq_true] at hw
      have := hw.2 _ hm
      simpa [isLet] using this
    rw [spec_l06Few.l0, if_pos (by omega), if_pos (by omega), List.drop_eq_getElem_cons hil, List.all_cons]
    rw [hb] at hlet ⊢
    generalize w.data.toList[i] = c at hlet
    by_cases h2 : (((c.toNat : Int)) - 97) % 256 ≥ 2
    · rw [if_pos h2]
      have h97 : (c == 97) = false := beq_eq_false_iff_ne.2 fun e => by subst e; revert h2; decide
      have h98 : (c == 98) = false := beq_eq_false_iff_ne.2 fun e => by subst e; revert h2; decide
      rw [h97, h98]; rfl
    · rw [if_neg h2, wrap_succ (by omega), ih k (i + 1) (by omega) (by omega)]
      have hc : c.toNat = 97 ∨ c.toNat = 98 := by omega
      have : (c == 97 || c == 98) = true := by
        rcases hc with e | e
        · rw [show c = 97 from UInt8.toNat_inj.1 e]; rfl
        · rw [show c = 98 from UInt8.toNat_inj.1 e]; rfl
      rw [this, Bool.true_and]
theorem l08Is_ev (w : ByteArray) (hw : w.size ≤ 2000000) : Ev (fun k => spec_l08Is.f k w) (isW w && two w) := by
  unfold spec_l08Is.f
  refine ev_bnd (l01Is_ev w (by omega)) ?_
  cases h : isW w with
  | false => simp only [Bool.false_eq_true, if_false]; exact ev_of (by simp)
  | true =>
    simp only [if_true, Bool.true_and]
    refine ev_bnd (a := two w) ⟨w.size + 1, fun k hk => ?_⟩ (ev_of rfl)
    have := few_loop w h w.size k 0 (by omega) (by omega)
    rw [List.drop_zero] at this
    exact this

theorem FnExactListOfStandard : laws_FnExactListOfStandard.Pure := by
  intro w hw
  refine ev_get ?_
  unfold laws_FnExactListOfStandard.f
  by_cases hgw : (w.size : Int) > 1048576
  · simp only [hgw, if_true]; exact ev_of rfl
  simp only [hgw, if_false]
  suffices h : ∃ r : List Int × Int, r.1.length ≤ 4000000000000 ∧ Ev (fun k => spec_ListOfStandard.f k w) r ∧ Ev (fun k => impl_ListOfStandard.f k w) r by
    obtain ⟨r, hr, h1, h2⟩ := h
    obtain ⟨q, m1, m2⟩ := markI_ev r.1 hr
    refine ev_bnd h1 (ev_bnd h2 (ev_bnd (eqI_ev r.1 hr) ?_))
    simp only [if_true, bne_false]
    refine ev_suc ?_
    simp only [laws_FnExactListOfStandard.j0, Bool.false_eq_true, if_false]
    refine ev_bnd m1 (ev_bnd m2 ?_)
    simp only [show ¬ ((r.1.length : Int) + 1 < 0) by omega, if_false, if_true]
    refine ev_bnd h2 (ev_bnd (eqI_ev r.1 hr) ?_)
    simp only [if_true, bne_false]
    refine ev_suc ?_
    simp only [laws_FnExactListOfStandard.j1, Bool.false_eq_true, if_false]
    refine ev_bnd m2 ?_
    simp only [show ¬ ((r.1.length : Int) + 1 < 0) by omega, if_false, if_true]
    exact ev_of rfl
  unfold spec_ListOfStandard.f impl_ListOfStandard.f
  simp only [isTwo_f, Option.bind_some]
  have hcode := l08Is_ev w (by omega)
  cases hb : (isW w && two w) with
  | false =>
    rw [hb] at hcode
    refine ⟨([], 1), by simp, ev_bnd hcode ?_, ?_⟩
    · simp only [Bool.false_eq_true, if_false]; exact ev_of rfl
    · simp only [Bool.false_eq_true, if_false]; exact ev_of rfl
  | true =>
    rw [hb] at hcode
    have h0 : isW w = true := by simp only [Bool.and_eq_true] at hb; exact hb.1
    have hs := isW_size h0
    obtain ⟨r, K, g1, g2⟩ := spec_all w hs 21 0 (by omega)
    obtain ⟨K2, f1⟩ := stdE_fold w hs 20 ⟨#[98]⟩ ⟨#[97]⟩ [] (by simp) (by decide) (by decide) (by decide) (by decide) (false, [])
    have hE : Ev (fun k => stdE k w ⟨#[98]⟩ ⟨#[97]⟩ [] (false, [])) (sg ((hits w 20 ⟨#[98]⟩ ⟨#[97]⟩ []).foldl stepL (false, []))) := ⟨K2, fun k hk => f1 k hk⟩
    refine ⟨r, ?_, ev_bnd hcode ?_, ?_⟩
    · rcases g2 with ⟨c', x, t, _, c2, c3, _, rfl⟩ | ⟨_, rfl⟩
      · obtain ⟨t1, e1, l1⟩ := allF_form w c' ⟨#[98]⟩ ⟨#[97]⟩ [] x (by rw [c3]; simp)
        rw [List.nil_append] at e1
        subst e1
        show (zs x).length ≤ _
        rw [zs_length]; omega
      · simp
    · simp only [if_true]; exact ⟨K, fun k hk => g1 k hk⟩
    · simp only [if_true]
      refine ev_bnd hE ?_
      rcases g2 with ⟨c', x, t, _, c2, c3, c4, rfl⟩ | ⟨c4, rfl⟩
      · rw [least_first w 20 c' c2 ⟨#[98]⟩ ⟨#[97]⟩ x t c3 (fun q hq => c4 q (by omega) hq)]
        simp only [sg, if_true]; exact ev_of rfl
      · rw [none_first w 20 ⟨#[98]⟩ ⟨#[97]⟩ (fun q hq => c4 q (by omega) hq)]
        simp only [sg, Bool.false_eq_true, if_false]; exact ev_of rfl

end Go.Proofs.YtippkbjdifmdnaaDoor.Pure
