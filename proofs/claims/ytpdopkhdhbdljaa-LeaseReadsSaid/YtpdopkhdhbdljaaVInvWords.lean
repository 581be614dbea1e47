/- Words of the printed texts, those that this seat uses; by this session's own program out of what the kit's print laid: no condition. -/
import Derived.Test.YtpdopkhdhbdljaaVInv
import Derived.Test.YtpdopkhdhbdljaaVFootNe
namespace Go.Proofs.YtpdopkhdhbdljaaW.PrintWords
open Go.RowKit
end Go.Proofs.YtpdopkhdhbdljaaW.PrintWords
namespace Go.Proofs.YtpdopkhdhbdljaaW.PrintLast
section
variable {ops : Array Oper} {a : Act} {o og : Oper} {g : Nat} {t : Tmp} {u : Bool}
end
end Go.Proofs.YtpdopkhdhbdljaaW.PrintLast
