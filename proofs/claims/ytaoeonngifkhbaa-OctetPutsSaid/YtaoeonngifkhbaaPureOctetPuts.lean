/- The plain statement of OctetPuts: what is written is what the document says: no condition. -/
import Derived.Test.YtaoeonngifkhbaaX3
import Derived.Test.YtaoeonngifkhbaaXOctRef
set_option linter.unusedVariables false
set_option linter.unusedSimpArgs false
namespace Go.Proofs.Ytaoeonngifkhbaa.Pure
open Go.RowKit Go.Proofs.YtaoeonngifkhbaaW.PrintWords Go.Proofs.YtaoeonngifkhbaaW.PrintLast Go.Proofs.YtaoeonngifkhbaaW.PrintMore Go.Proofs.Ytaoeonngifkhbaa.X Go.Proofs.Ytaoeonngifkhbaa.Oct

theorem awake_true2 {k : Nat} (hk : 12 ≤ k) : tenancylaw04_awake.f k = some true :=
  at_rounds tenancylaw04_awake.mono hk (by decide +kernel)

theorem OctetPuts : tenancylaw04_OctetPuts.Pure := by
  intro x s n hx hs hn
  obtain ⟨hx0, hx1⟩ := hx
  have a0 := wf_u64 hx0
  have a1 := wf_u64 hx1
  have hn := wf_i64 hn
  refine ⟨30, ?_⟩
  unfold tenancylaw04_OctetPuts.f
  rw [awake_true2 (by omega), run (by omega) s, rrun (by omega) s, u16_wrap,
    Put16 (by omega) _ (Int.emod_nonneg _ (by omega)) (Int.emod_lt_of_pos _ (by omega)), rPut16 (by omega) _ (Int.emod_nonneg _ (by omega)) (Int.emod_lt_of_pos _ (by omega)),
    Put32 (by omega) _ (Int.emod_nonneg _ (by omega)) (Int.emod_lt_of_pos _ (by omega)), rPut32 (by omega) _ (Int.emod_nonneg _ (by omega)) (Int.emod_lt_of_pos _ (by omega)),
    Put64 (by omega) _ a0.1 a0.2, rPut64 (by omega) _ a0.1 a0.2, putAddr (by omega) _ _ a0 a1, rputAddr (by omega) _ _ a0 a1]
  simp only [Option.bind_some, if_true, bne_self_eq_false, Bool.false_eq_true, if_false]
  rw [tenancylaw04_OctetPuts.j0, if_neg (by decide)]
  by_cases h : n > 1048576
  · rw [if_pos h]
  · rw [if_neg h, pad s n hn (by omega) (by omega), rpad s n (by omega)]
    simp only [Option.bind_some, if_true, beq_self_eq_true]
end Go.Proofs.Ytaoeonngifkhbaa.Pure
