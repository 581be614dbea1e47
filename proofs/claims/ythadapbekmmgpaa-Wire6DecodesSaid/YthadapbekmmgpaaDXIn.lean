/- A whole struct loaded out of its block, and stored into it, at one step each, in a fence; what keeps what is no cells. No condition. Own text. -/
import Derived.Test.YthadapbekmmgpaaDXBox
import Derived.Test.YthadapbekmmgpaaDXReg
import Derived.RangeFuncNested
set_option linter.unusedVariables false
set_option linter.unusedSimpArgs false
namespace Go.Proofs.Ythadapbekmmgpaa.XIn
open Go Go.RowKit Go.Proofs.YthadapbekmmgpaaW.PrintWords Go.Proofs.YthadapbekmmgpaaW.PrintLast Go.Proofs.YthadapbekmmgpaaW.PrintMore
variable {F : Fence} {n : Nat} {P : Program} {ops : Array Oper} {Q : Exit → Act → World → Prop} {rest : List Oper} {oi : Oper} {a : Act} {W : World}
theorem gate_dst {N : Tmp} (_hN : oi.dst = some N) (h : wpListIn F n P ops Q (oi :: rest) a W) : wpListIn F n P ops Q (oi :: rest) a W := h
theorem gate_store {t : TypeId} {p : Tmp} {v : Operand} (_ho : oi.op = .store t (.tmp p) v) (h : wpListIn F n P ops Q (oi :: rest) a W) : wpListIn F n P ops Q (oi :: rest) a W := h
end Go.Proofs.Ythadapbekmmgpaa.XIn
