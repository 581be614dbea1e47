/- RelayMirror: no condition. -/
import Derived.Test.YtfpamalmkmhpgaaG0
import Derived.Test.YtfpamalmkmhpgaaG1
import Derived.Test.YtfpamalmkmhpgaaG2
import Derived.Test.YtfpamalmkmhpgaaG3
import Derived.Test.YtfpamalmkmhpgaaG8
import Derived.Laws.BitsAllLaws
import Derived.Lib.Strings
import Derived.Test.YtfpamalmkmhpgaaXRl3
set_option linter.unusedVariables false
namespace Go.Proofs.Ytfpamalmkmhpgaa.Pure
open Go Go.RowKit Go.Proofs.YtfpamalmkmhpgaaW.PrintWords Go.Proofs.YtfpamalmkmhpgaaW.PrintLast Go.Proofs.YtfpamalmkmhpgaaW.PrintMore Go.Proofs.Ytfpamalmkmhpgaa.X Go.Proofs.Ytfpamalmkmhpgaa.Oct Go.Proofs.Ytfpamalmkmhpgaa.Rl
theorem RelayMirror : tenancylaw17_RelayMirror.Pure := by
  intro a0 a1 h0 h1
  refine ⟨200000, ?_⟩
  unfold tenancylaw17_RelayMirror.f
  rw [awake _ (by decide), Option.bind_some, if_pos rfl, unwrap_eq _ (by decide), Option.bind_some]
  by_cases h : 65507 < a0.size
  · rw [if_pos h, if_neg (by decide)]; rfl
  rw [if_neg h]
  have hu := unw_ok 12 33 (L a0) [] _ (by decide) (fun r hr => (by cases hr)) rfl
  generalize unw 12 33 (L a0) [] = X at hu ⊢
  by_cases he : X.2.2 = 0
  · obtain ⟨hR, hl⟩ := hu.1 he
    rw [if_pos he]
    show (relay_Wrap.f 13 X.1 a1).bind _ = _
    unfold relay_Wrap.f
    rw [Option.bind_some]
    obtain hg | ⟨t, h1, h2, h3⟩ := g_good 13 (.inr rfl) X.1 a1 hl (any_R hR)
    · rw [hg, if_neg (by decide)]; rfl
    · rw [h1, if_pos rfl]
      show (relay_Unwrap.f _ 13 t).bind _ = _
      rw [unwrap_eq _ (by decide), if_neg (by omega), Option.bind_some]
      have hs := same_true X.1 (by omega) 200000 (by omega)
      by_cases hz : (a1.size : Int) > 0
      · rw [if_pos hz, if_pos hz]
        by_cases h13 : bt a1 0 = 13
        · rw [if_pos h13]
        · rw [if_neg h13]
          have hb := back 13 (.inr rfl) X.1 a1 t hR hl h2 (by rw [hit_first 13 (.inr rfl) a1 (by omega)]; exact beq_eq_false_iff_ne.2 h13)
          rw [hb, if_pos rfl, hs, Option.bind_some, if_pos rfl, if_pos rfl]
          exact congrArg some (decide_eq_true (by omega))
      · rw [if_neg hz]
        have hb := back 13 (.inr rfl) X.1 a1 t hR hl h2 (hit_empty 13 a1 (by omega))
        rw [hb, if_pos rfl, hs, Option.bind_some, if_pos rfl, if_pos rfl]
        exact congrArg some (decide_eq_true (by omega))
  · rw [if_neg he, hu.2 he]; rfl
end Go.Proofs.Ytfpamalmkmhpgaa.Pure
