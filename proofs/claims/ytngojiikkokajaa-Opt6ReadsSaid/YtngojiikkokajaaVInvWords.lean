/- Words of the printed texts, those that this seat uses; by this session's own program out of what the kit's print laid: no condition. -/
import Derived.Test.YtngojiikkokajaaVInv
import Derived.Test.YtngojiikkokajaaVFootNe
namespace Go.Proofs.YtngojiikkokajaaW.PrintWords
open Go.RowKit
end Go.Proofs.YtngojiikkokajaaW.PrintWords
namespace Go.Proofs.YtngojiikkokajaaW.PrintLast
section
variable {ops : Array Oper} {a : Act} {o og : Oper} {g : Nat} {t : Tmp} {u : Bool}
end
end Go.Proofs.YtngojiikkokajaaW.PrintLast
