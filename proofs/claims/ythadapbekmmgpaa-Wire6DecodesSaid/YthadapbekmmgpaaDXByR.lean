/- Bytes that a conversion of a string made and that are written: no condition. Own text. -/
import Derived.Test.YthadapbekmmgpaaDXRun
import Derived.Lib.ConvBytes
import Derived.Laws.BytesArg
set_option linter.unusedVariables false
set_option linter.unusedSimpArgs false
namespace Go.Proofs.Ythadapbekmmgpaa.XByR
open Go.RowKit Go.Proofs.YthadapbekmmgpaaW.PrintWords Go.Proofs.YthadapbekmmgpaaW.PrintLast Go.Proofs.YthadapbekmmgpaaW.PrintMore
/-- A string with one byte another. -/
def setB (s : ByteArray) (i : Nat) (v : Int) : ByteArray := ⟨s.data.setIfInBounds i (UInt8.ofNat v.toNat)⟩
theorem size_setB (s : ByteArray) (i : Nat) (v : Int) : (setB s i v).size = s.size := by
  show (s.data.setIfInBounds i _).size = s.data.size
  exact Array.size_setIfInBounds
/-- The block g holds the bytes of s at its head, and writes are let. -/
structure ByR (e : TypeId) (W : World) (g : Nat) (s : ByteArray) : Prop where
  ex : ∃ (tl : List Value) (cs : Array Value) (fz : Nat × Nat), W.heap[g]? = some (.cells cs e fz) ∧ cs.toList = Lib.strCells s ++ tl ∧ s.size ≤ fz.1
theorem ByR.lt {e : TypeId} {W : World} {g : Nat} {s : ByteArray} (h : ByR e W g s) : g < W.heap.size := by
  obtain ⟨_, _, _, hb, _⟩ := h.ex
  exact blk_lt hb
theorem ByR.new (W : World) (e : TypeId) (s : ByteArray) : ByR e (Lib.bytesWorld W e s) W.heap.size s := by
  refine ⟨List.replicate (grownCap W s.size 0 e - s.size) (.int .u8 0), _, _, Lib.bytesWorld_at_new W e s, ?_, ?_⟩
  · simp [Lib.bytesCells, Lib.strCells]
  · show s.data.size ≤ _
    simp [Lib.bytesCells]
theorem ByR.below {e : TypeId} {W W' : World} {g : Nat} {s : ByteArray} (h : ByR e W g s) (hb : Below W.heap.size W W') : ByR e W' g s := by
  obtain ⟨tl, cs, fz, h1, h2⟩ := h.ex
  exact ⟨tl, cs, fz, blk_below h1 hb, h2⟩
theorem ByR.cell {e : TypeId} {W : World} {g : Nat} {s : ByteArray} (h : ByR e W g s) (i : Nat) (hi : i < s.size) : W.cell? ⟨g, i, none⟩ = some (.int .u8 ((bytesOf s).getD i 0)) := by
  obtain ⟨tl, cs, fz, h1, h2, _⟩ := h.ex
  have hl : i < s.data.toList.length := by rw [data_length]; exact hi
  rw [cell_of_row W g i cs e fz h1, ← Array.getElem?_toList, h2, List.getElem?_append_left (by rw [Lib.strCells_length]; exact hi), Lib.strCells, List.getElem?_map, List.getElem?_eq_getElem hl]
  simp [bytesOf, List.getD_eq_getElem?_getD, List.getElem?_eq_getElem hl]
theorem ByR.frozen {e : TypeId} {W : World} {g : Nat} {s : ByteArray} (h : ByR e W g s) (i : Nat) (hi : i < s.size) : W.frozen? ⟨g, i, none⟩ = false := by
  obtain ⟨tl, cs, fz, h1, h2, h3⟩ := h.ex
  simp [World.frozen?, h1]
  omega
theorem ByR.set {e : TypeId} {W : World} {g : Nat} {s : ByteArray} (h : ByR e W g s) (i : Nat) (hi : i < s.size) (v : Int) (hv : 0 ≤ v ∧ v < 256) : ByR e (W.setCell ⟨g, i, none⟩ (.int .u8 v)) g (setB s i v) := by
  obtain ⟨tl, cs, fz, h1, h2, h3⟩ := h.ex
  refine ⟨tl, cs.setIfInBounds i (.int .u8 v), fz, ?_, ?_, by rw [size_setB]; exact h3⟩
  · simp [World.setCell, Array.getElem?_modify, h1]
  · rw [Array.toList_setIfInBounds, h2, List.set_append_left _ _ (by rw [Lib.strCells_length]; exact hi)]
    congr 1
    simp [Lib.strCells, setB, List.map_set]
    congr 1
    rw [show max v 0 % 256 = v by omega]
end Go.Proofs.Ythadapbekmmgpaa.XByR
