/- RelayWraps: no condition. -/
import Derived.Test.YtfpamalmkmhpgaaG0
import Derived.Test.YtfpamalmkmhpgaaG1
import Derived.Test.YtfpamalmkmhpgaaG2
import Derived.Test.YtfpamalmkmhpgaaG3
import Derived.Test.YtfpamalmkmhpgaaG6
import Derived.Test.YtfpamalmkmhpgaaG7
import Derived.Laws.BitsAllLaws
import Derived.Lib.Strings
import Derived.Test.YtfpamalmkmhpgaaXRl3
import Derived.Test.YtfpamalmkmhpgaaXRl2R
set_option linter.unusedVariables false
namespace Go.Proofs.Ytfpamalmkmhpgaa.Pure
open Go Go.RowKit Go.Proofs.YtfpamalmkmhpgaaW.PrintWords Go.Proofs.YtfpamalmkmhpgaaW.PrintLast Go.Proofs.YtfpamalmkmhpgaaW.PrintMore Go.Proofs.Ytfpamalmkmhpgaa.X Go.Proofs.Ytfpamalmkmhpgaa.Oct Go.Proofs.Ytfpamalmkmhpgaa.Rl
theorem RelayWraps : tenancylaw17_RelayWraps.Pure := by
  intro a0 l1 a2 h0 h1 h2
  refine ⟨200000 + l1.length, ?_⟩
  unfold tenancylaw17_RelayWraps.f relay_Wrap.f relay_Link.f
  rw [awake _ (by omega), Option.bind_some, if_pos rfl, Option.bind_some, rwrap_eq a0 l1 a2 (fun r hr => okU_wf (h1.2 r hr)) _ (by omega), Option.bind_some, Option.bind_some, rlink_eq l1 _ (by omega) (by omega), Option.bind_some, if_pos rfl, if_pos rfl, if_pos (by simp), beq_self_eq_true]
end Go.Proofs.Ytfpamalmkmhpgaa.Pure
