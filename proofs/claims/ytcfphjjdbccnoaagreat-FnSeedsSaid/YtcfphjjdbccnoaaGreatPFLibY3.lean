/- Two covers. -/
import Derived.Test.YtcfphjjdbccnoaaGreatPFLibY2
import Derived.Test.YtcfphjjdbccnoaaGreatPFx3
namespace Go.Proofs.YtcfphjjdbccnoaaGreat.PF
open Go.RowKit Go.Proofs.YtcfphjjdbccnoaaGreatW.PrintWords Go.Proofs.YtcfphjjdbccnoaaGreatW.PrintLast Go.Proofs.YtcfphjjdbccnoaaGreatW.PrintMore
set_option linter.unusedVariables false
set_option linter.unusedSimpArgs false

/-- Two words cover a word. -/
def isC2 (w u v : ByteArray) : Bool := allT (covP w v (cov w u))
theorem two_loop (a b : List Bool) (hab : a.length = b.length) (hl : a.length ≤ 1000) : ∀ (d k i : Nat), i + d = a.length → d < k → ∃ r, spec_l09Two.l0 k a b (i : Int) = some r ∧ (r = true ↔ ∀ j, i ≤ j → j < a.length → (a.getD j false || b.getD j false) = true) := by
 intro d
 induction d with
 | zero =>
  intro k i hd hk
  obtain ⟨k, rfl⟩ : ∃ n, k = n + 1 := ⟨k - 1, by omega⟩
  refine ⟨true, ?_, ?_⟩
  ·
   simp only [spec_l09Two.l0]; rw [if_neg (by omega)]
  ·
   exact ⟨fun _ j h1 h2 => by omega, fun _ => rfl⟩
 | succ d ih =>
  intro k i hd hk
  obtain ⟨k, rfl⟩ : ∃ n, k = n + 1 := ⟨k - 1, by omega⟩
  obtain ⟨r, h1, h2⟩ := ih k (i + 1) (by omega) (by omega)
  have ga : rdOf false a (i : Int) = a.getD i false := by simp [rdOf]
  have gb : rdOf false b (i : Int) = b.getD i false := by simp [rdOf]
  by_cases c : (a.getD i false || b.getD i false) = true
  ·
   refine ⟨r, ?_, ?_⟩
   ·
    simp only [spec_l09Two.l0, ga, gb]
    rw [if_pos (by omega), if_pos (by omega), wrap_succ (by omega), h1]
    by_cases ca : a.getD i false = true
    ·
     rw [if_pos ca]
    ·
     rw [if_neg ca, if_pos (by omega), if_pos (by rw [Bool.not_eq_true] at ca; rw [ca, Bool.false_or] at c; exact c)]
   ·
    rw [h2]
    constructor
    ·
     intro h j hj1 hj2
     by_cases e : j = i
     ·
      subst e; exact c
     ·
      exact h j (by omega) hj2
    ·
     exact fun h j hj1 hj2 => h j (by omega) hj2
  ·
   rw [Bool.not_eq_true, Bool.or_eq_false_iff] at c
   refine ⟨false, ?_, ?_⟩
   ·
    simp only [spec_l09Two.l0, ga, gb, c.1, c.2]
    rw [if_pos (by omega), if_pos (by omega), if_neg (by simp), if_pos (by omega), if_neg (by simp)]
   ·
    constructor
    ·
     intro h; cases h
    ·
     intro h; have := h i (by omega) (by omega); rw [c.1, c.2] at this; cases this

theorem l09Two_f (w u v : ByteArray) (hw : w.size ≤ 60) (hu : u.size ≤ 60) (hv : v.size ≤ 60) (k : Nat) (hk : 10000 < k) : spec_l09Two.f k w u v = some (isC2 w u v) := by
 unfold spec_l09Two.f
 rw [spec_places9 w u hw hu k hk, spec_places9 w v hw hv k hk]
 simp only [Option.bind_some]
 obtain ⟨r, h1, h2⟩ := two_loop (cov w u) (cov w v) (by rw [cov_length, cov_length]) (by rw [cov_length]; omega) (cov w u).length k 0 (by omega) (by rw [cov_length]; omega)
 rw [show (0 : Int) = ((0 : Nat) : Int) from rfl, h1]
 congr 1
 have hget : ∀ j, j < w.size → (covP w v (cov w u)).getD j false = ((cov w u).getD j false || (cov w v).getD j false) := by
  intro j hj
  rw [covP, setAll_get, cov_length]
  congr 1
  rw [cov, covP, setAll_get, List.length_replicate]
  simp [hj]
 have h3 : isC2 w u v = true ↔ ∀ j, 0 ≤ j → j < (cov w u).length → ((cov w u).getD j false || (cov w v).getD j false) = true := by
  rw [cov_length]
  constructor
  ·
   intro h j _ hj
   rw [← hget j hj]; exact allT_get h j (by rw [covP_length, cov_length]; exact hj)
  ·
   intro h
   refine allT_of fun j hj => ?_
   rw [covP_length, cov_length] at hj
   rw [hget j hj]; exact h j (by omega) hj
 rw [Bool.eq_iff_iff, h2, h3]

theorem isCovered_two (w u v : ByteArray) (hw : w.size ≤ 60) (hu : isW u = true) (hv : isW v = true) (k : Nat) (hk : 10000 < k) : impl_isCovered.f k w [u, v] = some (isC2 w u v) := by
 unfold impl_isCovered.f
 rw [covered_f w hw k (by omega) [u, v] (fun x hx => by simp only [List.mem_cons, List.not_mem_nil, or_false] at hx; rcases hx with rfl | rfl <;> assumption)]
 simp only [Option.bind_some]
 have hl : (covL w [u, v] (List.replicate w.size false)).length = w.size := by
  show (covP w v (covP w u _)).length = _; rw [covP_length, covP_length, List.length_replicate]
 rw [containsB_f _ (by omega) k (by omega)]
 simp only [Option.bind_some, Bool.not_not]; rfl

end Go.Proofs.YtcfphjjdbccnoaaGreat.PF
