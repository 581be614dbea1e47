/- The plain statement of OctetGets: both readings are the same at every place: no condition. -/
import Derived.Test.YtaoeonngifkhbaaX4
import Derived.Test.YtaoeonngifkhbaaXOctRef
set_option linter.unusedVariables false
set_option linter.unusedSimpArgs false
namespace Go.Proofs.Ytaoeonngifkhbaa.Pure
open Go.RowKit Go.Proofs.YtaoeonngifkhbaaW.PrintWords Go.Proofs.YtaoeonngifkhbaaW.PrintLast Go.Proofs.YtaoeonngifkhbaaW.PrintMore Go.Proofs.Ytaoeonngifkhbaa.X Go.Proofs.Ytaoeonngifkhbaa.Oct

theorem awake_true {k : Nat} (hk : 12 ≤ k) : tenancylaw04_awake.f k = some true :=
  at_rounds tenancylaw04_awake.mono hk (by decide +kernel)

theorem OctetGets : tenancylaw04_OctetGets.Pure := by
  intro s at_ n hs ha hn
  have ha := wf_i64 ha
  have hn := wf_i64 hn
  have hs' : s.size ≤ 4611686018427387904 := by omega
  refine ⟨30, ?_⟩
  unfold tenancylaw04_OctetGets.f
  rw [awake_true (by omega), get16 (by omega) s at_ hs' ha, rget16 (by omega) s at_ hs' ha, get32 (by omega) s at_ hs' ha, rget32 (by omega) s at_ hs' ha]
  simp only [Option.bind_some, if_true, bne_self_eq_false, Bool.false_eq_true, if_false]
  rw [tenancylaw04_OctetGets.j0, if_neg (by decide), get64 (by omega) s at_ hs' ha, rget64 (by omega) s at_ hs' ha, getAddr (by omega) s at_ hs' ha, rgetAddr (by omega) s at_ hs' ha]
  simp only [Option.bind_some, if_true, bne_self_eq_false, Bool.false_eq_true, if_false, beq_self_eq_true, Bool.not_true, Bool.or_self]
  rw [tenancylaw04_OctetGets.j1, if_neg (by decide), cut s at_ n hs' ha hn, rcut s at_ n hs' ha hn]
  simp only [Option.bind_some, if_true, bne_self_eq_false, Bool.false_eq_true, if_false]
  rw [tenancylaw04_OctetGets.j2, if_neg (by decide), takeRun (by omega) s at_ hs' ha, rtakeRun (by omega) s at_ hs' ha]
  simp only [Option.bind_some, if_true, beq_self_eq_true]
end Go.Proofs.Ytaoeonngifkhbaa.Pure
