/- What the rows of DigestSums and DigestKeys list is what the walks read of the packages' tables: no condition. Own text. -/
import Derived.Test.YtjpcokifadaedaaDoorXGl
import Derived.Test.YtjpcokifadaedaaDoorXD8
set_option linter.unusedVariables false
namespace Go.Proofs.YtjpcokifadaedaaDoor.X
open Go Go.Lib
theorem glob4_of {W : World} {r : List (String × DataW Unit)} {ps : List MemPlace}
    (h : DataW.LaidVars Tryd.prog W (("tenancy/tenancyref05.sines", Rows.laid_tenancy_tenancyref05_sines) :: ("tenancy/tenancyref05.shifts", Rows.laid_tenancy_tenancyref05_shifts) :: ("tenancy/digest.sines", Rows.laid_tenancy_digest_sines) :: ("tenancy/digest.turns", Rows.laid_tenancy_digest_turns) :: r) ps) : Glob W ∧ RGlob W := by
  obtain ⟨g1, t1, c1, f1, p1, q1, hg1, ht1, hv1, hd1, ⟨g2, t2, c2, f2, p2, q2, hg2, ht2, hv2, hd2, hrest, _⟩, _⟩ := h
  refine ⟨glob_of hrest, ?_⟩
  obtain rfl := Option.some.inj ((show Tryd.prog.globalNamed "tenancy/tenancyref05.sines" = some 0 by kernel_rfl).symm.trans hg1)
  obtain rfl := Option.some.inj ((show Tryd.prog.globalNamed "tenancy/tenancyref05.shifts" = some 1 by kernel_rfl).symm.trans hg2)
  obtain rfl := Option.some.inj ((show (Tryd.prog.globals[0]?).map (·.type) = some 51 by kernel_rfl).symm.trans ht1)
  obtain rfl := Option.some.inj ((show (Tryd.prog.globals[1]?).map (·.type) = some 52 by kernel_rfl).symm.trans ht2)
  have e1 : c1.toList = sinesL.map fun z => Value.int .u32 z := cells_of_tab Tryd.underlying51 Tryd.underlying23 (by kernel_rfl) (by kernel_rfl) hd1
  have e2 : c2.toList = (turnsL.map fun z : Nat => (z : Int)).map fun z => Value.int .u64 z := cells_of_tab Tryd.underlying52 Tryd.underlying30 (by kernel_rfl) (by kernel_rfl) hd2
  have ht : ∀ i, i < 16 → W.cell? ⟨1, i, none⟩ = some (.int .u64 (turnsL.getD i 0 : Nat)) := fun i hi => by
    have hcell := World.var?_cell (show Tryd.prog.globalNamed "tenancy/tenancyref05.shifts" = some 1 by kernel_rfl) hv2 i
    rw [hcell, ← Array.getElem?_toList, e2, List.getElem?_map, List.getElem?_map]
    have hl : i < turnsL.length := hi
    rw [List.getElem?_eq_getElem hl, List.getD_eq_getElem?_getD, List.getElem?_eq_getElem hl]
    rfl
  refine ⟨?_, fun i hi => ?_, ht⟩
  · have h0 := ht 0 (by decide)
    have hsome : W.heap[1]? ≠ none := fun e => by simp [World.cell?, e] at h0
    cases hh : W.heap[1]? with
    | none => exact absurd hh hsome
    | some o => exact (Array.getElem?_eq_some_iff.1 hh).1
  · have hcell := World.var?_cell (show Tryd.prog.globalNamed "tenancy/tenancyref05.sines" = some 0 by kernel_rfl) hv1 i
    rw [hcell, ← Array.getElem?_toList, e1, List.getElem?_map]
    have hl : i < sinesL.length := hi
    rw [List.getElem?_eq_getElem hl, List.getD_eq_getElem?_getD, List.getElem?_eq_getElem hl]
    rfl
end Go.Proofs.YtjpcokifadaedaaDoor.X
