/- A call of a function value in a region told operation by operation: no condition. Own text. -/
import Derived.Test.YthadapbekmmgpaaDXReg
set_option linter.unusedVariables false
set_option linter.unusedSimpArgs false
namespace Go.Proofs.Ythadapbekmmgpaa.XReg
open Go Go.RowKit
variable {F : Fence} {n : Nat} {P : Program} {ops : Array Oper} {Q : Exit → Act → World → Prop}
/-- A call of a function value that captured something, in the widest fence. -/
theorem callv_ {ro : Option Nat} {o : Oper} {a : Act} {w : World} {K : Act → World → Prop} {f : FuncId} {fn : Func} {x : Operand} {as : Array Operand} {ts : Array TypeId} (cap : Array Value)
    (hf : P.funcs[f]? = some fn) (hn : (fn.name == "runtime.NumGoroutine") = false) (hb : fn.body.isSome = true) (args : Array Value)
    (hop : o.op = .call { callee := .value x, args := as, argTypes := ts }) (hx : a.eval x = .func (.func f) #[] cap) (hargs : as.map a.eval = args)
    (h : Calls P f (args ++ cap) w fun e w' => ∃ v, e = .returned v ∧ K (a.put o.dst v) w') : o.wpIn { Fence.wide with round := ro } n P a w K Q := by
  have hc : CallsIn { Fence.wide with round := ro } (n - 1) P f (args ++ cap) w fun e w' => ∃ v, e = .returned v ∧ K (a.put o.dst v) w' := by
    have h1 := callsIn_wide (n := n - 1) |>.2 h
    cases ro with
    | none => exact h1
    | some l => exact CallsIn.inRound l h1
  have he := Go.Proofs.YthadapbekmmgpaaW.PrintLast.enters_ hf hn hb (args ++ cap) w
  have hrun : (execOp a.eval o).run P w = .ok (.enter f (args ++ cap)) w := by
    unfold execOp
    simp [hop, resolve, Deferred.ofValue, invoke, hx, hargs, he]
  refine ⟨fun g hg => trivial, ?_⟩
  rw [Oper.semAt_eq _ _ _ (by rw [hop]; intro c h; cases h), hrun]
  refine ⟨fun h => by simp [Fence.wide] at h, ?_⟩
  refine hc.mono ?_
  rintro e w' ⟨v, rfl, hk⟩
  exact hk
end Go.Proofs.Ythadapbekmmgpaa.XReg
