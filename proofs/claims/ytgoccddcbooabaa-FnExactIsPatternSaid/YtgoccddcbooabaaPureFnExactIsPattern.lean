/- The program's IsPattern and the reference's IsPattern return the same: from one to eight letters, all of them A, B or C. -/
import Derived.Test.YtgoccddcbooabaaPFLibM
import Derived.Test.YtgoccddcbooabaaPFx2
namespace Go.Proofs.Ytgoccddcbooabaa.Pure
open Go.RowKit Go.Proofs.Ytgoccddcbooabaa.PF Go.Proofs.YtgoccddcbooabaaW.PrintWords Go.Proofs.YtgoccddcbooabaaW.PrintLast
set_option linter.unusedSimpArgs false
set_option linter.unusedVariables false
set_option maxRecDepth 20000

theorem FnExactIsPattern : laws_FnExactIsPattern.Pure := by
  intro p hp
  refine ev_get ?_
  unfold laws_FnExactIsPattern.f
  by_cases hg : (p.size : Int) > 1048576
  · simp only [hg, if_true]; exact ev_of rfl
  simp only [hg, if_false]
  unfold spec_IsPattern.f impl_IsPattern.f
  refine ev_bnd (a := isP p) ⟨p.size + 1, fun k hk => ?_⟩ ?_
  · show (spec_l10Is.f k p).bind _ = _
    rw [l10Is_f p (by omega) k (by omega)]; rfl
  · simp only [Option.bind_some, bne_false, Bool.false_eq_true, if_false]; exact ev_of rfl

end Go.Proofs.Ytgoccddcbooabaa.Pure
