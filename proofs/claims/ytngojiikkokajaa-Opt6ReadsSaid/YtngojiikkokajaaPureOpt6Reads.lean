/- Opt6Reads: no condition. -/
import Derived.Test.YtngojiikkokajaaG0
import Derived.Test.YtngojiikkokajaaG1
import Derived.Test.YtngojiikkokajaaG2
import Derived.Test.YtngojiikkokajaaG3
import Derived.Test.YtngojiikkokajaaG4
import Derived.Test.YtngojiikkokajaaG5
import Derived.Test.YtngojiikkokajaaG6
import Derived.Test.YtngojiikkokajaaG8
import Derived.Test.YtngojiikkokajaaG13
import Derived.Test.YtngojiikkokajaaG14
import Derived.Test.YtngojiikkokajaaG15
import Derived.Test.YtngojiikkokajaaG16
import Derived.Laws.BitsAllLaws
import Derived.Lib.Strings
import Derived.Test.YtngojiikkokajaaXO3
import Derived.Test.YtngojiikkokajaaXO2G
set_option linter.unusedVariables false
namespace Go.Proofs.Ytngojiikkokajaa.Pure
open Go Go.RowKit Go.Proofs.YtngojiikkokajaaW.PrintWords Go.Proofs.YtngojiikkokajaaW.PrintLast Go.Proofs.YtngojiikkokajaaW.PrintMore Go.Proofs.Ytngojiikkokajaa.X Go.Proofs.Ytngojiikkokajaa.Oct Go.Proofs.Ytngojiikkokajaa.O6
theorem Opt6Reads : tenancylaw15_Opt6Reads.Pure := by
  intro x hx
  have hs : x.f1.size ≤ 4611686018427387904 := by have := hx.2; omega
  have hl := gI_len x.f0 (L x.f1)
  refine ⟨1000, ?_⟩
  unfold tenancylaw15_Opt6Reads.f
  rw [awake _ (by decide), Option.bind_some, if_pos rfl, get_f _ _ hs, rGet_eq _ (by decide) _ _ hs, Option.bind_some, Option.bind_some, ias_true _ _ _ _ _ _ (by omega) _ (by omega), Option.bind_some, if_pos rfl, beq_self_eq_true]
end Go.Proofs.Ytngojiikkokajaa.Pure
