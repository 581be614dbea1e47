/- Words of the printed texts, those that this seat uses; by this session's own program out of what the kit's print laid: no condition. -/
import Derived.Test.YtdhmlenmnobmfaaVInv
import Derived.Test.YtdhmlenmnobmfaaVFootNe
namespace Go.Proofs.YtdhmlenmnobmfaaW.PrintWords
open Go.RowKit
end Go.Proofs.YtdhmlenmnobmfaaW.PrintWords
namespace Go.Proofs.YtdhmlenmnobmfaaW.PrintLast
section
variable {ops : Array Oper} {a : Act} {o og : Oper} {g : Nat} {t : Tmp} {u : Bool}
end
end Go.Proofs.YtdhmlenmnobmfaaW.PrintLast
