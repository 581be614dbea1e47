/- The plain statement of LeaseRight: what can be leased, by bits: no condition. -/
import Derived.Test.YtpdopkhdhbdljaaG10
import Derived.Laws.BitsAllLaws
import Derived.Lib.Strings
import Derived.Test.YtpdopkhdhbdljaaXRef2
set_option linter.unusedVariables false
namespace Go.Proofs.Ytpdopkhdhbdljaa.Pure
open Go.RowKit Go.Proofs.YtpdopkhdhbdljaaW.PrintWords Go.Proofs.YtpdopkhdhbdljaaW.PrintLast Go.Proofs.YtpdopkhdhbdljaaW.PrintMore Go.Proofs.Ytpdopkhdhbdljaa.X Go.Proofs.Ytpdopkhdhbdljaa.Lea Go.Proofs.Ytpdopkhdhbdljaa.Adr
theorem LeaseRight : tenancylaw08_LeaseRight.Pure := by
  intro x0 x1 w0 w1
  have hf := fit_wf w0
  refine ⟨400, ?_⟩
  unfold tenancylaw08_LeaseRight.f
  rw [awake_true (by omega), Option.bind_some, if_pos rfl, right_eq' (by omega) _ _ _ _ hf.hi hf.lo, Option.bind_some, rright_eq' (by omega) _ _ _ _ hf.hi hf.lo, Option.bind_some, if_pos (beq_self_eq_true _),
    sound_eq2 (by omega) x0 hf, Option.bind_some, rsnd_eq (by omega) x0 hf, Option.bind_some, if_pos (beq_self_eq_true _), change_eq (by omega) x0 hf, Option.bind_some, rchange_eq (by omega) x0 hf, Option.bind_some, if_pos (beq_self_eq_true _)]
  clear hf
  obtain ⟨g0, c, ⟨⟨h, l⟩, n⟩, s0, t0, i0, u0⟩ := x0
  obtain ⟨g1, d, ⟨⟨a, b⟩, m⟩, s1, t1, i1, u1⟩ := x1
  obtain ⟨h, rfl, hh⟩ := nat_u64 w0.2.2.1.1.1
  obtain ⟨l, rfl, hl⟩ := nat_u64 w0.2.2.1.1.2
  obtain ⟨a, rfl, ha⟩ := nat_u64 w1.2.2.1.1.1
  obtain ⟨b, rfl, hb⟩ := nat_u64 w1.2.2.1.1.2
  dsimp only
  rw [cmpLease (by omega), Option.bind_some, rcompare_eq (by omega) c h l hh hl n d a b ha hb m, Option.bind_some, if_pos rfl, lmeet_eq (by omega) c h l hh hl n d a b ha hb m, Option.bind_some,
    rlmeet_eq (by omega) c h l hh hl n d a b ha hb m, Option.bind_some, beq_self_eq_true]
end Go.Proofs.Ytpdopkhdhbdljaa.Pure
