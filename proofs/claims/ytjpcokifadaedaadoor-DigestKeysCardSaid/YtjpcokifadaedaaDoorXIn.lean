/- A whole struct loaded out of its block, and stored into it, at one step each, in a fence; what keeps what is no cells. No condition. Own text. -/
import Derived.Test.YtjpcokifadaedaaDoorXBox
import Derived.Test.YtjpcokifadaedaaDoorXReg
import Derived.RangeFuncNested
set_option linter.unusedVariables false
set_option linter.unusedSimpArgs false
namespace Go.Proofs.YtjpcokifadaedaaDoor.XIn
open Go Go.RowKit Go.Proofs.YtjpcokifadaedaaDoorW.PrintWords Go.Proofs.YtjpcokifadaedaaDoorW.PrintLast Go.Proofs.YtjpcokifadaedaaDoorW.PrintMore
variable {F : Fence} {n : Nat} {P : Program} {ops : Array Oper} {Q : Exit → Act → World → Prop} {rest : List Oper} {oi : Oper} {a : Act} {W : World}
theorem gate_dst {N : Tmp} (_hN : oi.dst = some N) (h : wpListIn F n P ops Q (oi :: rest) a W) : wpListIn F n P ops Q (oi :: rest) a W := h
theorem gate_store {t : TypeId} {p : Tmp} {v : Operand} (_ho : oi.op = .store t (.tmp p) v) (h : wpListIn F n P ops Q (oi :: rest) a W) : wpListIn F n P ops Q (oi :: rest) a W := h
theorem keeps_below {W W1 : World} (hb : Below W.heap.size W W1) : KeepsOthers W W1 :=
  ⟨hb.size, fun k o hk _ => (hb.block k (Array.getElem?_eq_some_iff.1 hk).1).trans hk⟩
theorem keeps_row {W W1 : World} {g : Nat} {c : Array Value} {t : TypeId} {f : Nat × Nat} (hb : W.heap[g]? = some (.cells c t f)) (hs : W.heap.size ≤ W1.heap.size) (hk : ∀ k, k ≠ g → W1.heap[k]? = W.heap[k]?) : KeepsOthers W W1 :=
  ⟨hs, fun k o h ho => by
    by_cases e : k = g
    · subst e; rw [hb] at h; cases h; cases ho
    · exact (hk k e).trans h⟩
/-- A block of cells lies on wherever turns fall on what is no cells. -/
theorem blk_own {β : Type} (B : Nat) (t : TypeId) (f : β → Array Value) : Own (fun s W => W.heap[B]? = some (.cells (f s) t (0, 0))) := fun s X Y row hs hg hrow =>
  (hg.block B (Array.getElem?_eq_some_iff.1 hs).1 (fun e => by obtain ⟨o, ho, hc⟩ := hrow B e.symm; rw [show X.heap[B]? = _ from hs] at ho; cases ho; cases hc)).trans hs
theorem loadIn_ (N : Tmp) (hd : oi.dst = some N) (hg : oi.guard = none) (t : TypeId) {x : Operand} (hop : oi.op = .load t x) (g : Nat) (hx : a.eval x = .pointer (some ⟨g, 0, none⟩)) (c : Array Value) {fs : TypeDesc}
    (hb : W.heap[g]? = some (.cells c t (0, 0))) (hu : P.underlying t = some fs) (hst : (match fs with | .struct _ | .array _ _ => true | _ => false) = true) (hi : (P.info? t).map (·.size) = some c.size) (h : wpListIn F n P ops Q rest (a.put (some N) (.agg c)) W) : wpListIn F n P ops Q (oi :: rest) a W := by
  refine wpListIn_plain hg fun K hK => ?_
  refine XReg.val_ (v := .agg c) (w1 := W) (by rw [hop]; intro c h; cases h) (by simp [Oper.about, hop]) ?_ (by rw [hd]; exact hK _ _ h)
  unfold execOp
  simp [hop, hx, Instr.loadAt, Instr.sureAddr, run_loadVar_row W g t t c (0, 0) _ hb hu hst hi, Result.andThen]
theorem storeIn_ (hd : oi.dst = none) (hg : oi.guard = none) (t : TypeId) {x y : Operand} (hop : oi.op = .store t x y) (g : Nat) (hx : a.eval x = .pointer (some ⟨g, 0, none⟩)) (c c' : Array Value) (hy : a.eval y = .agg c')
    (hb : W.heap[g]? = some (.cells c t (0, 0))) (hi : (P.info? t).map (·.size) = some c'.size) (ho : c.size = c'.size) (h1 : c'.all (·.oneCell') = true)
    (h : ∀ W1, W1.heap[g]? = some (.cells c' t (0, 0)) → (∀ n, n ≤ g → Below n W W1) → (∀ k, k ≠ g → W1.heap[k]? = W.heap[k]?) → wpListIn F n P ops Q rest a W1) : wpListIn F n P ops Q (oi :: rest) a W := by
  have hk := h (W.setRow g c') (setRow_heap W g c c' t (0, 0) hb) (fun n hn => XBox.setRow_below hb hn) (fun k hk => by simp only [World.setRow]; rw [Array.getElem?_modify, if_neg (Ne.symm hk)])
  refine wpListIn_plain hg fun K hK => ?_
  refine XReg.skip_ (w1 := W.setRow g c') (by rw [hop]; intro c h; cases h) (by simp [Oper.about, hop]) ?_ ?_
  · unfold execOp
    simp [hop, hx, hy, Instr.storeAt, Instr.sureAddr, run_storeVar_row W g t t c c' hb hi ho h1, Result.andThen]
  · have hk2 := hK a (W.setRow g c') hk
    simpa [hd, Act.put] using hk2
end Go.Proofs.YtjpcokifadaedaaDoor.XIn
