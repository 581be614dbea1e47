/- A whole struct loaded out of its block, and stored into it, at one step each: no condition. Own text. -/
import Derived.Test.YthadapbekmmgpaaDW
import Derived.Laws.Rows
import Derived.Laws.Tables
set_option linter.unusedVariables false
set_option linter.unusedSimpArgs false
namespace Go.Proofs.Ythadapbekmmgpaa.XBox
open Go.RowKit Go.Proofs.YthadapbekmmgpaaW.PrintWords Go.Proofs.YthadapbekmmgpaaW.PrintLast Go.Proofs.YthadapbekmmgpaaW.PrintMore
variable {P : Program} {ops : Array Oper} {Q : Exit → Act → World → Prop} {rest : List Oper} {oi : Oper} {a : Act} {W : World}
theorem loadL_ (N : Tmp) (hd : oi.dst = some N) (hg : oi.guard = none) (t : TypeId) {x : Operand} (hop : oi.op = .load t x) (g : Nat) (hx : a.eval x = .pointer (some ⟨g, 0, none⟩)) (c : Array Value) {fs : TypeDesc}
    (hb : W.heap[g]? = some (.cells c t (0, 0))) (hu : P.underlying t = some fs) (hst : (match fs with | .struct _ | .array _ _ => true | _ => false) = true) (hi : (P.info? t).map (·.size) = some c.size) (h : wpList P ops Q rest (a.put (some N) (.agg c)) W) : wpList P ops Q (oi :: rest) a W := by
  refine Kd.event_run hg (v := .agg c) (w1 := W) ?_ (by rw [hd]; exact h)
  unfold execOp
  simp [hop, hx, Instr.loadAt, Instr.sureAddr, run_loadVar_row W g t t c (0, 0) _ hb hu hst hi, Result.andThen]
theorem setRow_below {g : Nat} {c c' : Array Value} {t : TypeId} (hb : W.heap[g]? = some (.cells c t (0, 0))) {n : Nat} (hn : n ≤ g) : Below n W (W.setRow g c') := by
  refine ⟨rfl, rfl, rfl, by simp [World.setRow], fun k hk => ?_⟩
  simp only [World.setRow]
  rw [Array.getElem?_modify, if_neg (by omega)]
theorem storeL_ (hd : oi.dst = none) (hg : oi.guard = none) (t : TypeId) {x y : Operand} (hop : oi.op = .store t x y) (g : Nat) (hx : a.eval x = .pointer (some ⟨g, 0, none⟩)) (c c' : Array Value) (hy : a.eval y = .agg c')
    (hb : W.heap[g]? = some (.cells c t (0, 0))) (hi : (P.info? t).map (·.size) = some c'.size) (ho : c.size = c'.size) (h1 : c'.all (·.oneCell') = true)
    (h : ∀ W1, W1.heap[g]? = some (.cells c' t (0, 0)) → (∀ n, n ≤ g → Below n W W1) → (∀ k, k ≠ g → W1.heap[k]? = W.heap[k]?) → wpList P ops Q rest a W1) : wpList P ops Q (oi :: rest) a W := by
  have hk := h (W.setRow g c') (setRow_heap W g c c' t (0, 0) hb) (fun n hn => setRow_below hb hn) (fun k hk => by simp only [World.setRow]; rw [Array.getElem?_modify, if_neg (Ne.symm hk)])
  refine wpList_plain hg fun K hK => ?_
  unfold Oper.wp
  have hr : (execOp a.eval oi).run P W = .ok .skip (W.setRow g c') := by
    unfold execOp
    simp [hop, hx, hy, Instr.storeAt, Instr.sureAddr, run_storeVar_row W g t t c c' hb hi ho h1, Result.andThen]
  rw [hr]
  have hk2 := hK a (W.setRow g c') hk
  first | exact hk2 | simpa [Oper.upon] using hk2 | simpa [Oper.upon, hd, Act.put] using hk2
end Go.Proofs.Ythadapbekmmgpaa.XBox
