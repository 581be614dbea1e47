/- Opt6Writes: no condition. -/
import Derived.Test.YtngojiikkokajaaG0
import Derived.Test.YtngojiikkokajaaG1
import Derived.Test.YtngojiikkokajaaG2
import Derived.Test.YtngojiikkokajaaG3
import Derived.Test.YtngojiikkokajaaG4
import Derived.Test.YtngojiikkokajaaG5
import Derived.Test.YtngojiikkokajaaG7
import Derived.Test.YtngojiikkokajaaG8
import Derived.Test.YtngojiikkokajaaG10
import Derived.Test.YtngojiikkokajaaG11
import Derived.Test.YtngojiikkokajaaG12
import Derived.Laws.BitsAllLaws
import Derived.Lib.Strings
import Derived.Test.YtngojiikkokajaaXO3
import Derived.Test.YtngojiikkokajaaXO2S
set_option linter.unusedVariables false
namespace Go.Proofs.Ytngojiikkokajaa.Pure
open Go Go.RowKit Go.Proofs.YtngojiikkokajaaW.PrintWords Go.Proofs.YtngojiikkokajaaW.PrintLast Go.Proofs.YtngojiikkokajaaW.PrintMore Go.Proofs.Ytngojiikkokajaa.X Go.Proofs.Ytngojiikkokajaa.Oct Go.Proofs.Ytngojiikkokajaa.O6
theorem Opt6Writes : tenancylaw15_Opt6Writes.Pure := by
  intro x hx
  have hX : ∀ y ∈ x.f4, okX y := fun y hy => okX_wf (hx.2.2.2.2.1.2 y hy)
  refine ⟨1000, ?_⟩
  unfold tenancylaw15_Opt6Writes.f
  rw [awake _ (by decide), Option.bind_some, if_pos rfl, put_f _ _ _ _ _ _ hX (wf_u32 hx.2.1) (wf_u32 hx.2.2.1) (wf_u32 hx.2.2.2.1), rPut_eq _ _ _ _ _ _ hX (wf_u32 hx.2.1) (wf_u32 hx.2.2.1) (wf_u32 hx.2.2.2.1) _ (by decide), Option.bind_some, Option.bind_some, if_pos (by rw [beq_self_eq_true, beq_self_eq_true]; rfl), if_pos rfl, sound_f _ _ _ _ _ _ hX, rSound_eq _ _ _ _ _ _ hX _ (by decide), Option.bind_some, Option.bind_some, beq_self_eq_true]
end Go.Proofs.Ytngojiikkokajaa.Pure
