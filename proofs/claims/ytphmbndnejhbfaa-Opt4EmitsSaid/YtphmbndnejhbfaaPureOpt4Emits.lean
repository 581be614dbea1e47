/- The plain statement of Opt4Emits: both ways of writing, finding and leaving out come to one: no condition. -/
import Derived.Test.YtphmbndnejhbfaaX3
import Derived.Test.YtphmbndnejhbfaaXOpt2
set_option linter.unusedVariables false
namespace Go.Proofs.Ytphmbndnejhbfaa.Pure
open Go.RowKit Go.Proofs.YtphmbndnejhbfaaW.PrintWords Go.Proofs.YtphmbndnejhbfaaW.PrintLast Go.Proofs.YtphmbndnejhbfaaW.PrintMore Go.Proofs.Ytphmbndnejhbfaa.X Go.Proofs.Ytphmbndnejhbfaa.Oct Go.Proofs.Ytphmbndnejhbfaa.Opt

theorem Opt4Emits : tenancylaw13_Opt4Emits.Pure := by
  intro l0 a1 _ _
  refine ⟨60 * l0.length + 400, ?_⟩
  unfold tenancylaw13_Opt4Emits.f
  rw [awake_true (by omega), Option.bind_some, if_pos rfl]
  by_cases hbig : (l0.length : Int) > 300
  · rw [if_pos hbig]
  rw [if_neg hbig, emit_eq l0 (by omega), Option.bind_some, remit_eq l0 (by omega), Option.bind_some, if_pos rfl, bne_self_eq_false, tenancylaw13_Opt4Emits.j0, if_neg (by decide), find_eq l0 a1 (by omega) (by omega)]
  obtain ⟨r, hr⟩ := find_some l0 a1
  have hfl : (l0.filter (fun y => !(y.f0 == a1))).length ≤ l0.length := List.length_filter_le _ _
  rw [hr, Option.bind_some, Option.bind_some, if_pos rfl, if_pos (by simp), opt4_Without.f, if_pos (by omega), Option.bind_some, without_eq l0 a1 (by omega) (by omega), Option.bind_some, same_refl _ (by omega) (by omega)]
  rfl
end Go.Proofs.Ytphmbndnejhbfaa.Pure
