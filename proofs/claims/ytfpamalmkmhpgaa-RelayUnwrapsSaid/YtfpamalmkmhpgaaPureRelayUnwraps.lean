/- RelayUnwraps: no condition. -/
import Derived.Test.YtfpamalmkmhpgaaG0
import Derived.Test.YtfpamalmkmhpgaaG1
import Derived.Test.YtfpamalmkmhpgaaG2
import Derived.Test.YtfpamalmkmhpgaaG3
import Derived.Test.YtfpamalmkmhpgaaG4
import Derived.Test.YtfpamalmkmhpgaaG5
import Derived.Laws.BitsAllLaws
import Derived.Lib.Strings
import Derived.Test.YtfpamalmkmhpgaaXRl3
import Derived.Test.YtfpamalmkmhpgaaXRl1R
set_option linter.unusedVariables false
namespace Go.Proofs.Ytfpamalmkmhpgaa.Pure
open Go Go.RowKit Go.Proofs.YtfpamalmkmhpgaaW.PrintWords Go.Proofs.YtfpamalmkmhpgaaW.PrintLast Go.Proofs.YtfpamalmkmhpgaaW.PrintMore Go.Proofs.Ytfpamalmkmhpgaa.X Go.Proofs.Ytfpamalmkmhpgaa.Oct Go.Proofs.Ytfpamalmkmhpgaa.Rl
theorem RelayUnwraps : tenancylaw17_RelayUnwraps.Pure := by
  intro a0 a1 h0 h1
  obtain ⟨X, hX⟩ : ∃ X, X = (if 65507 < a1.size then (([] : List S39), NIL, (6 : Int)) else unw a0 33 (L a1) []) := ⟨_, rfl⟩
  have hl : X.1.length ≤ 32 := by
    rw [hX]
    by_cases h : 65507 < a1.size
    · rw [if_pos h]; exact Nat.zero_le _
    · rw [if_neg h]
      have := unw_ok a0 33 (L a1) [] _ (by decide) (fun r hr => (by cases hr)) rfl
      by_cases he : (unw a0 33 (L a1) []).2.2 = 0
      · exact (this.1 he).2
      · rw [this.2 he]; exact Nat.zero_le _
  refine ⟨200000, ?_⟩
  unfold tenancylaw17_RelayUnwraps.f
  rw [awake _ (by decide), Option.bind_some, if_pos rfl, unwrap_eq _ (by decide), runwrap_eq _ (by decide), ← hX, Option.bind_some, Option.bind_some, same_true _ (by omega) _ (by omega), Option.bind_some, if_pos rfl, if_pos rfl, beq_self_eq_true]
end Go.Proofs.Ytfpamalmkmhpgaa.Pure
