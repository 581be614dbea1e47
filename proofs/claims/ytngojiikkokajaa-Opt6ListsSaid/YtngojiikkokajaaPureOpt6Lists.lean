/- Opt6Lists: no condition. -/
import Derived.Test.YtngojiikkokajaaG0
import Derived.Test.YtngojiikkokajaaG1
import Derived.Test.YtngojiikkokajaaG2
import Derived.Test.YtngojiikkokajaaG3
import Derived.Test.YtngojiikkokajaaG4
import Derived.Test.YtngojiikkokajaaG5
import Derived.Test.YtngojiikkokajaaG6
import Derived.Test.YtngojiikkokajaaG7
import Derived.Test.YtngojiikkokajaaG9
import Derived.Laws.BitsAllLaws
import Derived.Lib.Strings
import Derived.Test.YtngojiikkokajaaXO3
import Derived.Test.YtngojiikkokajaaXO1G
import Derived.Test.YtngojiikkokajaaXO1E
set_option linter.unusedVariables false
namespace Go.Proofs.Ytngojiikkokajaa.Pure
open Go Go.RowKit Go.Proofs.YtngojiikkokajaaW.PrintWords Go.Proofs.YtngojiikkokajaaW.PrintLast Go.Proofs.YtngojiikkokajaaW.PrintMore Go.Proofs.Ytngojiikkokajaa.X Go.Proofs.Ytngojiikkokajaa.Oct Go.Proofs.Ytngojiikkokajaa.O6
theorem Opt6Lists : tenancylaw15_Opt6Lists.Pure := by
  intro a0 l1 a2 h0 h1 h2
  refine ⟨1000, ?_⟩
  have hs : a0.size ≤ 4611686018427387904 := by omega
  have hok := opts_ok (L a0)
  unfold tenancylaw15_Opt6Lists.f
  rw [awake _ (by decide), Option.bind_some, if_pos rfl]
  by_cases h300 : (l1.length : Int) > 300
  · rw [if_pos h300]
  · rw [if_neg h300, parse_eq a0 hs _ (by decide), rparse_eq a0 hs _ (by decide), Option.bind_some, Option.bind_some, same_true _ (by omega) _ (by omega), Option.bind_some, if_pos rfl, if_pos rfl]
    obtain ⟨E, he, hr⟩ : ∃ E, opt6_Emit.f l1 = some E ∧ tenancyref15_Emit.f 1000 l1 = some E := by
      by_cases h128 : (l1.length : Int) > 128
      · refine ⟨_, by unfold opt6_Emit.f; rw [if_pos h128], by unfold tenancyref15_Emit.f; rw [if_pos h128]⟩
      · have hz : ∀ x ∈ l1, okF x := fun x hx => wf_u16 (h1.2 x hx).1
        exact ⟨_, emit_eq l1 hz (by omega), remit_eq l1 hz (by omega) 1000 (by decide)⟩
    rw [he, Option.bind_some, hr, Option.bind_some, if_pos rfl, if_pos rfl, getStatus_eq a0 hs _ (by decide), rgetStatus_eq a0 hs _ (by decide), Option.bind_some, Option.bind_some, if_pos rfl, if_pos (by rw [beq_self_eq_true]), putStatus_eq a2 _ (by decide), rputStatus_eq a2 _ (by decide), Option.bind_some, Option.bind_some, beq_self_eq_true]
end Go.Proofs.Ytngojiikkokajaa.Pure
