/- Words of the printed texts, those that this seat uses; by this session's own program out of what the kit's print laid: no condition. -/
import Derived.Test.YtfpamalmkmhpgaaVInv
import Derived.Test.YtfpamalmkmhpgaaVFootNe
namespace Go.Proofs.YtfpamalmkmhpgaaW.PrintWords
open Go.RowKit
end Go.Proofs.YtfpamalmkmhpgaaW.PrintWords
namespace Go.Proofs.YtfpamalmkmhpgaaW.PrintLast
section
variable {ops : Array Oper} {a : Act} {o og : Oper} {g : Nat} {t : Tmp} {u : Bool}
end
end Go.Proofs.YtfpamalmkmhpgaaW.PrintLast
