/- The plain statement of LeaseOrder: what can be leased stands in one row: no condition. -/
import Derived.Test.YtpdopkhdhbdljaaG11
import Derived.Laws.BitsAllLaws
import Derived.Lib.Strings
import Derived.Test.YtpdopkhdhbdljaaXLea
set_option linter.unusedVariables false
namespace Go.Proofs.Ytpdopkhdhbdljaa.Pure
open Go.RowKit Go.Proofs.YtpdopkhdhbdljaaW.PrintWords Go.Proofs.YtpdopkhdhbdljaaW.PrintLast Go.Proofs.YtpdopkhdhbdljaaW.PrintMore Go.Proofs.Ytpdopkhdhbdljaa.X Go.Proofs.Ytpdopkhdhbdljaa.Lea
theorem LeaseOrder : tenancylaw08_LeaseOrder.Pure := by
  intro x0 x1 x2 _ _ _
  refine ⟨200, ?_⟩
  unfold tenancylaw08_LeaseOrder.f
  rw [awake_true (by omega), Option.bind_some, if_pos rfl, cmpLease (by omega), Option.bind_some, cmpLease (by omega), Option.bind_some, cmpLease (by omega), Option.bind_some, cmpLease (by omega), Option.bind_some]
  have hr := ordP.rng (x0.f1.f0, (x0.f1.f1.f0.f0, x0.f1.f1.f0.f1), x0.f1.f1.f1) (x1.f1.f0, (x1.f1.f1.f0.f0, x1.f1.f1.f0.f1), x1.f1.f1.f1)
  have hs := ordP.sym (x0.f1.f0, (x0.f1.f1.f0.f0, x0.f1.f1.f0.f1), x0.f1.f1.f1) (x1.f1.f0, (x1.f1.f1.f0.f0, x1.f1.f1.f0.f1), x1.f1.f1.f1)
  have hz := ordP.zero (x0.f1.f0, (x0.f1.f1.f0.f0, x0.f1.f1.f0.f1), x0.f1.f1.f1) (x1.f1.f0, (x1.f1.f1.f0.f0, x1.f1.f1.f0.f1), x1.f1.f1.f1)
  have ht := ordP.tr (x0.f1.f0, (x0.f1.f1.f0.f0, x0.f1.f1.f0.f1), x0.f1.f1.f1) (x1.f1.f0, (x1.f1.f1.f0.f0, x1.f1.f1.f0.f1), x1.f1.f1.f1) (x2.f1.f0, (x2.f1.f1.f0.f0, x2.f1.f1.f0.f1), x2.f1.f1.f1)
  rw [hs]
  generalize cmpP (x0.f1.f0, (x0.f1.f1.f0.f0, x0.f1.f1.f0.f1), x0.f1.f1.f1) (x1.f1.f0, (x1.f1.f1.f0.f0, x1.f1.f1.f0.f1), x1.f1.f1.f1) = ab at *
  generalize cmpP (x1.f1.f0, (x1.f1.f1.f0.f0, x1.f1.f1.f0.f1), x1.f1.f1.f1) (x2.f1.f0, (x2.f1.f1.f0.f0, x2.f1.f1.f0.f1), x2.f1.f1.f1) = bc at *
  generalize cmpP (x0.f1.f0, (x0.f1.f1.f0.f0, x0.f1.f1.f0.f1), x0.f1.f1.f1) (x2.f1.f0, (x2.f1.f1.f0.f0, x2.f1.f1.f0.f1), x2.f1.f1.f1) = ac at *
  rw [if_neg (by omega), if_neg (by omega), if_pos (by unfold wrap64; omega)]
  have fin : (if ab ≤ 0 then (if bc ≤ 0 then some (decide (ac ≤ 0)) else some true) else some true) = some true := by
    by_cases h1 : ab ≤ 0
    · rw [if_pos h1]
      by_cases h2 : bc ≤ 0
      · rw [if_pos h2, decide_eq_true (ht h1 h2).1]
      · rw [if_neg h2]
    · rw [if_neg h1]
  by_cases hk : x0.f1.f0 = x1.f1.f0
  · rw [if_pos hk, if_neg ?_, fin]
    by_cases h0 : ab = 0
    · have := hz.1 h0
      simp only [Prod.mk.injEq] at this
      simp [h0, this]
    · have hne : ¬ ((x0.f1.f1.f0.f0 = x1.f1.f1.f0.f0 ∧ x0.f1.f1.f0.f1 = x1.f1.f1.f0.f1) ∧ x0.f1.f1.f1 = x1.f1.f1.f1) := fun h => h0 (hz.2 (by rw [hk, h.1.1, h.1.2, h.2]))
      have e1 : (ab == 0) = false := by simpa using h0
      have e2 : ((x0.f1.f1.f0.f0 == x1.f1.f1.f0.f0 && (x0.f1.f1.f0.f1 == x1.f1.f1.f0.f1)) && (x0.f1.f1.f1 == x1.f1.f1.f1)) = false := by
        rw [Bool.eq_false_iff]
        intro h
        simp only [Bool.and_eq_true, beq_iff_eq] at h
        exact hne h
      rw [e1, e2]; decide
  · have h0 : ¬ ab = 0 := fun h => hk (by have := hz.1 h; simp only [Prod.mk.injEq] at this; exact this.1)
    have e1 : (ab == 0) = false := by simpa using h0
    rw [if_neg hk, e1, if_neg (by decide), fin]
end Go.Proofs.Ytpdopkhdhbdljaa.Pure
