/- The plain side of DigestLinear. No condition. Own text. -/
import Derived.Test.YtjpcokifadaedaaDoorXCrcL
set_option linter.unusedVariables false
namespace Go.Proofs.YtjpcokifadaedaaDoor.X.Pure
open Go Go.RowKit
theorem DigestLinear (a b c : ByteArray) (ha : a.size ≤ 140737488351232) (hb : b.size ≤ 140737488351232) (hc : c.size ≤ 140737488351232) (W : World) (gl : Glob W) :
    Calls Tryd.prog 5 #[.string a, .string b, .string c] W fun e w' => e = .returned (.bool true) ∧ Below W.heap.size W w' :=
  tenancylaw05_DigestLinear.calls a b c (by omega) (by omega) (by omega) lin_true W gl
end Go.Proofs.YtjpcokifadaedaaDoor.X.Pure
