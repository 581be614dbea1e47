/- Words of the printed texts, those that this seat uses; by this session's own program out of what the kit's print laid: no condition. -/
import Derived.Test.YtdhmlenmnobmfaaVWords
import Derived.Laws.StructEq
/-! ### 53. '==' of structs as_ one Bool -/
namespace Go.Proofs.YtdhmlenmnobmfaaW.PrintWords
open Go.RowKit
section
variable {P : Program} {d : Nat} {xs ys : Array Value} {f : Field} {fs : List Field} {a b : Value} {r s : Bool} {w : World}
end
end Go.Proofs.YtdhmlenmnobmfaaW.PrintWords
