/- What the row lists is what the walks read of the package's tables: no condition. Own text. -/
import Derived.Test.YtjpcokifadaedaaDoorRows
import Derived.Test.YtjpcokifadaedaaDoorXD0
import Derived.Lib.LaidTab
import Derived.FnData
set_option linter.unusedVariables false
namespace Go.Proofs.YtjpcokifadaedaaDoor.X
open Go Go.Lib
theorem cells_tab2 {H : Type} {enc : TypeId × Value → H} {P : Program} {w : World} {base : Nat} {sp : Nat → Bool} {held : Bool} {fuel : Nat} {t e i : TypeId} {n m : Nat} {k : IntKind} {cs : List Value} {rows : List (List Int)} {p : List MemPlace}
    (ht : P.underlying t = some (.array n e)) (he : P.underlying e = some (.array m i)) (hi : P.underlying i = some (.int k)) (hci : P.cellsOf i = 1) (hce : P.cellsOf e = m)
    (h : DataW.trod enc P w base sp held fuel t cs = some (.agg (rows.map fun zs => tabData k zs), p)) : ∀ q, q < n → ∃ zs, rows[q]? = some zs ∧ (cs.drop (q * m)).take m = zs.map fun z => Value.int k z := by
  intro q hq
  cases fuel with
  | zero => simp [DataW.trod] at h
  | succ fuel =>
    simp only [DataW.trod, ht, hce] at h
    split at h
    · obtain ⟨xs, hm, hx⟩ := Option.map_eq_some_iff.1 h
      have hxs : xs.map (·.1) = rows.map fun zs => (tabData k zs : DataW H) := by
        have := congrArg Prod.fst hx
        simpa using this
      obtain ⟨b, hb, hf⟩ := mapM_at hm q q (by simp [hq])
      have h2 : (xs.map (·.1))[q]? = some b.1 := by simp [hb]
      rw [hxs, List.getElem?_map] at h2
      obtain ⟨zs, hz, hzb⟩ := Option.map_eq_some_iff.1 h2
      obtain ⟨b1, b2⟩ := b
      simp only at hzb
      subst hzb
      exact ⟨zs, hz, cells_of_tab he hi hci hce hf⟩
    · cases h
def turnsR : List (List Int) := [[7, 12, 17, 22], [5, 9, 14, 20], [4, 11, 16, 23], [6, 10, 15, 21]]
theorem turns_at : ∀ i, i < 16 → (turnsR.getD (i / 4) []).getD (i % 4) 0 = ((turnsL.getD i 0 : Nat) : Int) := by decide
theorem glob_of {W : World} {r : List (String × DataW Unit)} {ps : List MemPlace}
    (h : DataW.LaidVars Tryd.prog W (("tenancy/digest.sines", Rows.laid_tenancy_digest_sines) :: ("tenancy/digest.turns", Rows.laid_tenancy_digest_turns) :: r) ps) : Glob W := by
  obtain ⟨g1, t1, c1, f1, p1, q1, hg1, ht1, hv1, hd1, ⟨g2, t2, c2, f2, p2, q2, hg2, ht2, hv2, hd2, _, _⟩, _⟩ := h
  obtain rfl := Option.some.inj ((show Tryd.prog.globalNamed "tenancy/digest.sines" = some 2 by kernel_rfl).symm.trans hg1)
  obtain rfl := Option.some.inj ((show Tryd.prog.globalNamed "tenancy/digest.turns" = some 3 by kernel_rfl).symm.trans hg2)
  obtain rfl := Option.some.inj ((show (Tryd.prog.globals[2]?).map (·.type) = some 51 by kernel_rfl).symm.trans ht1)
  obtain rfl := Option.some.inj ((show (Tryd.prog.globals[3]?).map (·.type) = some 60 by kernel_rfl).symm.trans ht2)
  have e1 : c1.toList = sinesL.map fun z => Value.int .u32 z := cells_of_tab Tryd.underlying51 Tryd.underlying23 (by kernel_rfl) (by kernel_rfl) hd1
  have e2 := cells_tab2 (rows := turnsR) (k := .i64) Tryd.underlying60 Tryd.underlying59 Tryd.underlying3 (by kernel_rfl) (by kernel_rfl) hd2
  have ht : ∀ i, i < 16 → W.cell? ⟨3, i, none⟩ = some (.int .i64 (turnsL.getD i 0 : Nat)) := fun i hi => by
    obtain ⟨zs, hz, hc⟩ := e2 (i / 4) (by omega)
    have hcell := World.var?_cell (show Tryd.prog.globalNamed "tenancy/digest.turns" = some 3 by kernel_rfl) hv2 i
    have h1 : ((c2.toList.drop (i / 4 * 4)).take 4)[i % 4]? = c2.toList[i]? := by
      rw [List.getElem?_take_of_lt (Nat.mod_lt _ (by decide)), List.getElem?_drop, show i / 4 * 4 + i % 4 = i by omega]
    rw [hcell, ← Array.getElem?_toList, ← h1, hc, List.getElem?_map]
    have hr : turnsR.getD (i / 4) [] = zs := by rw [List.getD_eq_getElem?_getD, hz]; rfl
    have hl : zs.length = 4 := by
      have h3 : ∀ j, j < 4 → (turnsR.getD j []).length = 4 := by decide
      rw [← hr]
      exact h3 _ (by omega)
    have hti := turns_at i hi
    rw [hr, List.getD_eq_getElem?_getD, List.getElem?_eq_getElem (by rw [hl]; exact Nat.mod_lt _ (by decide))] at hti
    rw [List.getElem?_eq_getElem (by rw [hl]; exact Nat.mod_lt _ (by decide)), ← hti]
    rfl
  refine ⟨?_, fun i hi => ?_, ht⟩
  · have h0 := ht 0 (by decide)
    have hsome : W.heap[3]? ≠ none := fun e => by simp [World.cell?, e] at h0
    cases hh : W.heap[3]? with
    | none => exact absurd hh hsome
    | some o => exact (Array.getElem?_eq_some_iff.1 hh).1
  · have hcell := World.var?_cell (show Tryd.prog.globalNamed "tenancy/digest.sines" = some 2 by kernel_rfl) hv1 i
    rw [hcell, ← Array.getElem?_toList, e1, List.getElem?_map]
    have hl : i < sinesL.length := hi
    rw [List.getElem?_eq_getElem hl, List.getD_eq_getElem?_getD, List.getElem?_eq_getElem hl]
    rfl
end Go.Proofs.YtjpcokifadaedaaDoor.X
