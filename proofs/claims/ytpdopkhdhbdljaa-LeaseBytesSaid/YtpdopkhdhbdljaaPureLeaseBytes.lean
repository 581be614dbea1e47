/- The plain statement of LeaseBytes: the reference writes the same bytes: no condition. -/
import Derived.Test.YtpdopkhdhbdljaaG14
import Derived.Laws.BitsAllLaws
import Derived.Lib.Strings
import Derived.Test.YtpdopkhdhbdljaaXRefE
set_option linter.unusedVariables false
namespace Go.Proofs.Ytpdopkhdhbdljaa.Pure
open Go.RowKit Go.Proofs.YtpdopkhdhbdljaaW.PrintWords Go.Proofs.YtpdopkhdhbdljaaW.PrintLast Go.Proofs.YtpdopkhdhbdljaaW.PrintMore Go.Proofs.Ytpdopkhdhbdljaa.X Go.Proofs.Ytpdopkhdhbdljaa.Lea
theorem LeaseBytes : tenancylaw08_LeaseBytes.Pure := by
  intro l hl
  have hf : ∀ c ∈ l, Fit c := fun c hc => fit_wf (hl.2 c hc)
  refine ⟨6000, ?_⟩
  unfold tenancylaw08_LeaseBytes.f
  rw [awake_true (by omega), Option.bind_some, if_pos rfl, encode_eq l hf, Option.bind_some, rencode_eq (by omega) l hf, Option.bind_some, if_pos rfl, beq_self_eq_true]
end Go.Proofs.Ytpdopkhdhbdljaa.Pure
