/- The plain statement of Opt4Parses: both readings come to one: no condition. -/
import Derived.Test.YtphmbndnejhbfaaX3
import Derived.Test.YtphmbndnejhbfaaXOpt
set_option linter.unusedVariables false
namespace Go.Proofs.Ytphmbndnejhbfaa.Pure
open Go.RowKit Go.Proofs.YtphmbndnejhbfaaW.PrintWords Go.Proofs.YtphmbndnejhbfaaW.PrintLast Go.Proofs.YtphmbndnejhbfaaW.PrintMore Go.Proofs.Ytphmbndnejhbfaa.X Go.Proofs.Ytphmbndnejhbfaa.Oct Go.Proofs.Ytphmbndnejhbfaa.Opt

theorem Opt4Parses : tenancylaw13_Opt4Parses.Pure := by
  intro l0 hl
  obtain ⟨h1, h2⟩ := hl
  have hf := fit_parse l0 [] fit_nil
  refine ⟨l0.length + 3 * 140737488351232 + 200, ?_⟩
  unfold tenancylaw13_Opt4Parses.f
  rw [awake_true (by omega), Option.bind_some, if_pos rfl, parse_eq (Nat.le_refl _) l0 (by omega) h2 (Nat.le_refl _), Option.bind_some, rparse_eq (Nat.le_refl _) l0 (by omega) h2 (Nat.le_refl _), Option.bind_some, same_refl _ (by have := hf.1; omega) (by have := hf.1; omega), Option.bind_some, if_pos rfl, beq_self_eq_true]
end Go.Proofs.Ytphmbndnejhbfaa.Pure
